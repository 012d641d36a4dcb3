import Derived.Test.YtehaohfglolljaaGreatDoorZzaf
import Derived.Laws.Slices
import Derived.Lib.ConvBytes
set_option linter.unusedSimpArgs false
set_option linter.unusedVariables false
namespace Go.V
open Go
noncomputable section
section
variable {P : Program} {G : Env P} {g : Nat → Option (List AV)} {ρ : Rho} {I : Imm} {H : Heap} {w : World}
theorem zqc (c : Conc g ρ I H w) {w' : World} (hsz : w.heap.size ≤ w'.heap.size) (hold : ∀ b, b < w.heap.size → w'.heap[b]? = w.heap[b]?) (hos : w'.os = w.os) (htape : w'.tape = w.tape) (hout : w'.output = w.output) :
  Good ρ I H w ρ I H w' ∧ Conc g ρ I H w' ∧ Mono ρ I w ρ I w' := by
 have gd : Good ρ I H w ρ I H w' :=
  ⟨fun _ _ h => h, fun _ _ _ h => h, Nat.le_refl _, fun _ _ h => h, fun _ _ _ h => .inl h, hos, htape, hout, hsz, fun b off h _ => by simp only [World.cell?, hold b h], fun b h _ => hold b h,
   fun b h => by unfold bsz; rw [hold b h], fun _ _ _ h => h, fun _ _ h => h⟩
 have m := c.mono gd fun _ _ h => h
 refine ⟨gd, ⟨c.dom, c.res, fun id b h => Nat.lt_of_lt_of_le (c.blt id b h) hsz, c.inj, ?_, ?_, fun b o hb => ⟨Nat.lt_of_lt_of_le (c.imm b o hb).1 hsz, (c.imm b o hb).2⟩, ?_⟩, m⟩
 ·intro id cs f h;obtain ⟨b, el, fr, us, k1, k2, k3, k4⟩ := c.blk id cs f h;exact ⟨b, el, fr, us, k1, by rw [hold b (c.blt id b k1)]; exact k2, z15 m _ _ k3, k4⟩
 ·intro id e h he;obtain ⟨q, h'⟩ := c.grow id e h he;refine ⟨q, ?_⟩;rcases h' with ⟨k1, k2⟩ | ⟨b, el, fr, us, rest, k1, k2, k3, k4⟩
  ·exact .inl ⟨k1, k2⟩
  ·exact .inr ⟨b, el, fr, us, rest, k1, by rw [hold b (c.blt id b k1)]; exact k2, z15 m _ _ k3, k4⟩
 ·intro gl cs h;obtain ⟨us, q1, q2⟩ := c.glob gl cs h;exact ⟨us, z4q m q1, q2.mono m.imm⟩
theorem zh4 (c : Conc g ρ I H w) {nid : Nat} (hn : H[nid]? = some .res) {e : Ent} (he : e.grows = true) (hev : e.even) {w' : World} {el : TypeId} {fr : Nat × Nat} {cs rest : List Value} (hsz : w'.heap.size = w.heap.size + 1)
  (hold : ∀ b, b < w.heap.size → w'.heap[b]? = w.heap[b]?) (hnew : w'.heap[w.heap.size]? = some (.cells (cs ++ rest).toArray el fr)) (hr : RL ρ I w e.cells cs) (hcl : clear fr (cs ++ rest).length)
  (hos : w'.os = w.os) (htape : w'.tape = w.tape) (hout : w'.output = w.output) :
  Good ρ I H w (z1e ρ nid (some w.heap.size)) I (H.set nid e) w' ∧ Conc g (z1e ρ nid (some w.heap.size)) I (H.set nid e) w' ∧ Mono ρ I w (z1e ρ nid (some w.heap.size)) I w' := by
 refine zdd c hn e (some w.heap.size) (fun b hb => by simp at hb; omega) (by omega) hold (by cases e <;> simp_all [Ent.grows, Ent.live]) ?_ ?_ hos htape hout
 ·rintro cs f rfl; simp [Ent.grows] at he
 ·exact fun _ => ⟨hev, .inr ⟨_, el, fr, cs, rest, rfl, hnew, hr, hcl⟩⟩
theorem zo1 {nid n cap k : Nat} {w' : World} {el : TypeId} {fr : Nat × Nat} {all : List Value} (hsz : w'.heap.size = w.heap.size + 1) (hnew : w'.heap[w.heap.size]? = some (.cells all.toArray el fr)) (hle : n ≤ cap) (hall : cap * k ≤ all.length) :
  rel (z1e ρ nid (some w.heap.size)) I w' (.sl nid 0 k n) (.slice (some ⟨w.heap.size, 0, none⟩) n cap) := by
 refine z2j.2 (.inl ⟨w.heap.size, cap, by simp [z1e], rfl, hle, by omega, ?_⟩)
 unfold bsz;rw [hnew];simpa using hall
theorem zcm {l : List UInt8} : RL ρ I w [.b8 l.length l] (v8 l) := ⟨v8 l, [], by simp, ⟨rfl, rfl⟩, rfl⟩
theorem Ent.z1m4 {l : List UInt8} {f : List (Nat × Nat)} : (Ent.grow8 l f).cells = [.b8 l.length l] := rfl
def BV : Option Value → Option Int → Prop
 | none, none => True
 | some v, some n => ∃ k, v = .int k n
 | _, _ => False
theorem zk9 {ev : Operand → AV} {e : Operand → Value} (r : ∀ x, rel ρ I w (ev x) (e x)) {o : Option Operand} {i : Option Int} (h : zam ev o = some i) : BV (o.map e) i := by
 cases o with
 | none => simp only [zam, Option.some.injEq] at h; subst h; trivial
 | some x =>
  simp only [zam] at h
  split at h
  ·rename_i k n hk;simp only [Option.some.injEq] at h;subst h;exact ⟨k, z6q hk (r x)⟩
  ·simp at h
theorem z2e {lo hi : Option Int} {len : Nat} (h : z1d lo hi len = true) : loN lo ≤ hiN len hi ∧ hiN len hi ≤ len ∧ (∀ n, lo = some n → 0 ≤ n) ∧ (∀ n, hi = some n → 0 ≤ n) := by
 unfold z1d at h;cases lo with
 | none => cases hi with
  | none => simp [loN, hiN]
  | some y =>
   simp only [Bool.and_eq_true] at h;have := z3e.1 h.1; have := zh.1 h.2
   simp [loN, hiN]; omega
 | some x => cases hi with
  | none =>
   simp only [Bool.and_eq_true] at h;have := z3e.1 h.1; have := zh.1 h.2
   simp [loN, hiN]; omega
  | some y =>
   simp only [Bool.and_eq_true] at h;have := z3e.1 h.1.1; have := zh.1 h.1.2; have := z3e.1 h.2.1; have := zh.1 h.2.2
   simp [loN, hiN]; omega
theorem z78 {v : Value} {n : Int} {y : Nat} {code : BoundsCode} (h : ∃ k, v = .int k n) (h0 : 0 ≤ n) (h1 : n.toNat ≤ y) : (Instr.sliceBound v y code).run P w = .ok n.toNat w := by
 obtain ⟨k, rfl⟩ := h;exact run_sliceBound w k n y code h0 (by omega)
theorem z5f {b : Bool} {len cap : Nat} {lo hi : Option Value} {lo' hi' : Option Int} (h1 : BV lo lo') (h2 : BV hi hi') (ok : z1d lo' hi' len = true) (hc : len ≤ cap) :
  (Instr.sliceBounds b len cap lo hi none).run P w = .ok (loN lo', hiN len hi', cap) w := by
 obtain ⟨q1, q2, q3, q4⟩ := z2e ok;cases lo <;> cases lo' <;> simp only [BV] at h1
 ·cases hi <;> cases hi' <;> simp only [BV] at h2
  ·simp [Instr.sliceBounds, loN, hiN]
  ·rename_i v n;have := z78 (P := P) (w := w) (y := cap) (code := if b then .sliceAcap else .sliceAlen) h2 (q4 n rfl) (by simp [hiN] at q2; omega)
   simp [Instr.sliceBounds, loN, hiN, this]
 ·rename_i v n;cases hi <;> cases hi' <;> simp only [BV] at h2
  ·have := z78 (P := P) (w := w) (y := len) (code := .sliceB) h1 (q3 n rfl) (by simpa [loN, hiN] using q1)
   simp [Instr.sliceBounds, loN, hiN, this]
  ·rename_i v' n';have e1 := z78 (P := P) (w := w) (y := cap) (code := if b then .sliceAcap else .sliceAlen) h2 (q4 n' rfl) (by simp [hiN] at q2; omega)
   have e2 := z78 (P := P) (w := w) (y := n'.toNat) (code := .sliceB) h1 (q3 n rfl) (by simpa [loN, hiN] using q1)
   simp [Instr.sliceBounds, loN, hiN, e1, e2]
theorem zlg {b : Bool} {len cap : Nat} {lo hi mx : Option Value} {lo' : Option Int} {h' : Int} (h1 : BV lo lo') (h2 : BV hi (some h')) (h3 : BV mx (some h')) (ok : z1d lo' (some h') len = true) (hc : len ≤ cap) :
  (Instr.sliceBounds b len cap lo hi mx).run P w = .ok (loN lo', h'.toNat, h'.toNat) w := by
 obtain ⟨q1, q2, q3, q4⟩ := z2e ok;cases hi <;> simp only [BV] at h2
 cases mx <;> simp only [BV] at h3
 simp only [hiN] at q1 q2;have e1 := z78 (P := P) (w := w) (y := cap) (code := if b then .slice3Acap else .slice3Alen) h3 (q4 h' rfl) (by omega)
 have e2 := z78 (P := P) (w := w) (y := h'.toNat) (code := .slice3B) h2 (q4 h' rfl) (Nat.le_refl _);cases lo <;> cases lo' <;> simp only [BV] at h1
 ·simp [Instr.sliceBounds, loN, e1, e2]
 ·rename_i v n;have e3 := z78 (P := P) (w := w) (y := h'.toNat) (code := .slice3C) h1 (q3 n rfl) (by simpa [loN] using q1)
  simp [Instr.sliceBounds, loN, e1, e2, e3]
end
section
variable {P : Program} {G : Env P} {ρ : Rho} {I : Imm} {H : Heap} {w : World}
theorem zds {α : Type} {lo hi : Option Int} {l : List α} (h : z1d lo hi l.length = true) : zx lo hi l = (l.drop (loN lo)).take (hiN l.length hi - loN lo) := by
 obtain ⟨q1, q2, q3, q4⟩ := z2e h;cases lo <;> cases hi <;> simp only [zx, loN, hiN] at *
 ·simp
 ·simp
 ·simp [List.take_of_length_le]
 ·rw [List.drop_take]
theorem z6j {α : Type} {lo hi : Option Int} {l : List α} (h : z1d lo hi l.length = true) : (zx lo hi l).length = hiN l.length hi - loN lo := by
 obtain ⟨q1, q2, _, _⟩ := z2e h;rw [zds h]; simp; omega
theorem zl7 {k : Nat} : ∀ {rows : List AV} {vs : List Value} (n : Nat), (∀ a ∈ rows, szA a = k) → RL ρ I w rows vs → RL ρ I w (rows.drop n) (vs.drop (n * k))
 | _, _, 0, _, h => by simpa using h
 | [], _, n + 1, _, h => by cases h; simp [RL]
 | a :: as, _, n + 1, hk, ⟨ys, zs, h0, h1, h2⟩ => by
  subst h0;have hl := z3o a ys h1;rw [hk a (by simp)] at hl
  rw [List.drop_succ_cons];have := zl7 n (fun b hb => hk b (by simp [hb])) h2
  rw [Nat.add_mul, Nat.one_mul, Nat.add_comm, ← List.drop_drop, List.drop_left' hl];exact this
theorem z7x {full full' : Bool} {len k : Nat} {vs : List Value} {a : Option Addr} {cap l h : Nat} (hv : vecR I w full len vs (.slice a len cap)) (h1 : l ≤ h) (h2 : h ≤ len) {cap' : Nat} (hc : cap' ≤ cap) (hh : h ≤ cap') (hf : full' = true → cap' = h) :
  vecR I w full' (h - l) ((vs.drop (l * k)).take ((h - l) * k)) (sliced a l h cap' k) := by
 obtain ⟨a0, cap0, e, g1, g2, g3⟩ := hv;simp only [Value.slice.injEq, true_and] at e;obtain ⟨rfl, rfl⟩ := e;refine ⟨_, _, rfl, by omega, fun q => by rw [hf q], ?_⟩
 rcases Nat.eq_zero_or_pos (h - l) with hz | hz
 ·exact .inl hz
 ·right
  rcases g3 with g3 | ⟨b, off, rfl, g4, g5⟩
  ·omega
  ·refine ⟨b, off + l * k, ?_, g4, g5.sub ?_⟩
   ·rw [if_neg (by omega)]; simp [addr_add]
   ·intro i x hx;rw [List.getElem?_take] at hx
    split at hx
    ·rwa [List.getElem?_drop] at hx
    ·simp at hx
theorem z169 {id off k len : Nat} {v : Value} (hv : slR ρ w id off k len v) {l h : Nat} (h1 : l ≤ h) (h2 : h ≤ len) : ∃ a cap, v = .slice a len cap ∧ len ≤ cap ∧ slR ρ w id (off + l * k) k (h - l) (sliced a l h cap k) := by
 rcases hv with ⟨b, cap, g1, rfl, g2, g3, g4⟩ | ⟨rfl, a, rfl⟩
 ·refine ⟨_, cap, rfl, g2, ?_⟩
  by_cases e : cap = l
  ·subst e
   right
   have e1 : h = cap := by omega
   subst e1;exact ⟨by omega, some ⟨b, off, none⟩, by simp [sliced]⟩
  ·left
   refine ⟨b, cap - l, g1, by simp [sliced, e, addr_add], by omega, g3, ?_⟩
   have : (cap - l) * k + l * k = cap * k := by rw [← Nat.add_mul]; congr 1; omega
   omega
 ·refine ⟨a, 0, rfl, Nat.le_refl _, .inr ⟨by omega, a, ?_⟩⟩
  have : h = 0 := by omega
  subst this;have : l = 0 := by omega
  subst this;simp [sliced]
theorem z5n {e : Nat} {te : TI} (h : G.ty e = some te) : (sizeOf e).run P w = .ok te.size w := by
 obtain ⟨j, d, h1, h2, h3, _⟩ := z1a h;rw [run_sizeOf h1, h3]
theorem zz6 {t e : Nat} (h : P.underlying t = some (.slice e)) : P.elem t = e := by simp [Program.elem, h]
theorem z4d {t e : Nat} {te : TI} (ht : P.underlying t = some (.slice e)) (hte : G.ty e = some te) {a : Option Addr} {len cap : Nat} {lo hi mx : Option Value} {l h m : Nat}
  (hb : (Instr.sliceBounds true len cap lo hi mx).run P w = .ok (l, h, m) w) : (Instr.sliceAt t (.slice a len cap) lo hi mx).run P w = .ok (sliced a l h m te.size) w := by
 have ht' : P.underlying t = some (.slice (P.elem t)) := by rw [zz6 ht]; exact ht
 rw [run_sliceAt_slice w t _ lo hi mx ht', run_slice_any w t a len cap ht' lo hi mx, hb];simp only [Result.andThen];rw [zz6 ht, z5n hte]
theorem znz {t : Nat} (ht : P.underlying t = some .string) {s : ByteArray} {lo hi : Option Value} {l h m : Nat}
  (hb : (Instr.sliceBounds false s.size s.size lo hi none).run P w = .ok (l, h, m) w) : (Instr.sliceAt t (.string s) lo hi none).run P w = .ok (.string (s.extract l h)) w := by
 rw [run_sliceAt_string w t _ lo hi none ht];simp [Instr.slice, run_underlying ht, hb]
theorem extract_mk (s : List UInt8) (l h : Nat) : (⟨s.toArray⟩ : ByteArray).extract l h = ⟨((s.drop l).take (h - l)).toArray⟩ := by
 apply ByteArray.ext;simp [ByteArray.data_extract, List.extract_toArray, List.extract_eq_take_drop]
theorem zm8 {l : List UInt8} {lo hi : Option Int} (h : z1d lo hi l.length = true) : v8 (zx lo hi l) = ((v8 l).drop (loN lo * 1)).take ((hiN l.length hi - loN lo) * 1) := by
 rw [zds h, zah, za9, Nat.mul_one, Nat.mul_one]
theorem zt0 {k : Nat} {rows : List AV} {vs : List Value} (hk : ∀ a ∈ rows, szA a = k) (hr : RL ρ I w rows vs) {lo hi : Option Int} (h : z1d lo hi rows.length = true) :
  RL ρ I w (zx lo hi rows) ((vs.drop (loN lo * k)).take ((hiN rows.length hi - loN lo) * k)) ∧ ∀ a ∈ zx lo hi rows, szA a = k := by
 rw [zds h];exact ⟨zat _ (fun a ha => hk a (List.mem_of_mem_drop ha)) (zl7 _ hk hr), fun a ha => hk a (List.mem_of_mem_drop (List.mem_of_mem_take ha))⟩
end
section
variable {P : Program} (G : Env P)
def aSl (ti : TI) (H : Heap) (x : AV) (lo hi : Option Int) : Option (Bool × AV) :=
 match ti.kind, x with
 | .string, .str s => some (z1d lo hi s.length, .str (zx lo hi s))
 | .slice e, .vec8 full l => match G.ty e with
  | some te => some (te.size == 1 && z1d lo hi l.length, .vec8 (full && hi.isNone) (zx lo hi l))
  | none => none
 | .slice e, .vec full k rows => match G.ty e with
  | some te => some (te.size == k && z1d lo hi rows.length, .vec (full && hi.isNone) k (zx lo hi rows))
  | none => none
 | .slice e, .vecr full k m f => match G.ty e with
  | some te => some (te.size == k && z1d lo hi m, .vecr (full && hi.isNone) k (hiN m hi - loN lo) (fun i => f (loN lo + i)))
  | none => none
 | .slice e, .slv _ k m f => match G.ty e with
  | some te => some (te.size == k && z1d lo hi m, .vecr (false && hi.isNone) k (hiN m hi - loN lo) (fun i => f (loN lo + i)))
  | none => none
 | .slice e, .sl id off k len => match G.ty e with
  | some te => some (te.size == k && z1d lo hi len, .sl id (off + loN lo * k) k (hiN len hi - loN lo))
  | none => none
 | .ptr a, .ptr id off => match G.ty a with
  | some ta => match ta.kind with
   | .arr n e => match G.ty e with
    | some te => match z4u H id with
     | some c => some ((leB (off + n * te.size) (szL c) && te.size != 0) && z1d lo hi n, .sl id (off + loN lo * te.size) te.size (hiN n hi - loN lo))
     | none => none
    | none => none
   | _ => none
  | none => none
 | .arr n e, .ptr id off => match G.ty e with
  | some te => match z4u H id with
   | some c => some ((leB (off + n * te.size) (szL c) && te.size != 0) && z1d lo hi n, .sl id (off + loN lo * te.size) te.size (hiN n hi - loN lo))
   | none => none
  | none => none
 | _, _ => none
def aSl3 (ti : TI) (x : AV) (lo : Option Int) (hi mx : Int) : Option (Bool × AV) :=
 match ti.kind, x with
 | .slice e, .vec8 _ l => match G.ty e with
  | some te => some ((te.size == 1 && hi == mx) && z1d lo (some hi) l.length, .vec8 true (zx lo (some hi) l))
  | none => none
 | .slice e, .vec _ k rows => match G.ty e with
  | some te => some ((te.size == k && hi == mx) && z1d lo (some hi) rows.length, .vec true k (zx lo (some hi) rows))
  | none => none
 | _, _ => none
end
section
variable {P : Program} {G : Env P} {ρ : Rho} {I : Imm} {H : Heap} {w : World}
theorem ze3 {hi : Option Int} {len cap : Nat} {full : Bool} (hf : full = true → cap = len) : (full && hi.isNone) = true → cap = hiN len hi := by
 intro h;simp only [Bool.and_eq_true, Option.isNone_iff_eq_none] at h;obtain ⟨h1, rfl⟩ := h;exact hf h1
theorem zur {g : Nat → Option (List AV)} (c : Conc g ρ I H w) {t : Nat} {ti : TI} (ht : G.ty t = some ti) {x : AV} {vx : Value} (r : rel ρ I w x vx) {lo hi : Option Value} {lo' hi' : Option Int} (h1 : BV lo lo') (h2 : BV hi hi') {p : Bool × AV}
  (h : aSl G ti H x lo' hi' = some p) (hp : p.1 = true) : ∃ y, (Instr.sliceAt t vx lo hi none).run P w = .ok y w ∧ rel ρ I w p.2 y := by
 obtain ⟨j, d, _, q2, _, _, q5, _⟩ := z1a ht;unfold aSl at h
 split at h
 ·rename_i s hk;simp only [Option.some.injEq] at h;subst h;rw [hk] at q5;obtain rfl := TK.of_string q5;obtain rfl := zi.1 r;have hp : z1d lo' hi' s.length = true := hp;have hb := z5f (P := P) (w := w) (b := false) (len := s.length) (cap := s.length) h1 h2 hp (Nat.le_refl _);refine ⟨_, znz q2 (by simpa [ByteArray.size] using hb), zi.2 ?_⟩
  rw [extract_mk, zds hp]
 ·rename_i e full l hk
  split at h
  ·rename_i te hte;simp only [Option.some.injEq] at h;subst h;rw [hk] at q5;obtain rfl := TK.of_slice q5;have hv := z22.1 r;obtain ⟨a, cap, rfl, k2, k3, k4⟩ := hv;have hv := z22.1 r;simp only [Bool.and_eq_true, beq_iff_eq] at hp;obtain ⟨hs, hp⟩ := hp;obtain ⟨o1, o2, _, _⟩ := z2e hp;have hb := z5f (P := P) (w := w) (b := true) (len := l.length) (cap := cap) h1 h2 hp k2;refine ⟨_, z4d q2 hte hb, z22.2 ?_⟩;rw [hs, z6j hp, zm8 hp];exact z7x hv o1 o2 (Nat.le_refl _) (by omega) (ze3 k3)
  ·simp at h
 ·rename_i e full k rows hk
  split at h
  ·rename_i te hte;simp only [Option.some.injEq] at h;subst h;rw [hk] at q5;obtain rfl := TK.of_slice q5;obtain ⟨hsz, vs, hr, hv⟩ := z2h.1 r;have hv' := hv;obtain ⟨a, cap, rfl, k2, k3, k4⟩ := hv';simp only [Bool.and_eq_true, beq_iff_eq] at hp;obtain ⟨hs, hp⟩ := hp;obtain ⟨o1, o2, _, _⟩ := z2e hp;have hb := z5f (P := P) (w := w) (b := true) (len := rows.length) (cap := cap) h1 h2 hp k2;obtain ⟨r1, r2⟩ := zt0 hsz hr hp;refine ⟨_, z4d q2 hte hb, z2h.2 ⟨r2, _, r1, ?_⟩⟩;rw [hs, z6j hp];exact z7x hv o1 o2 (Nat.le_refl _) (by omega) (ze3 k3)
  ·simp at h
 ·rename_i e full k m f hk
  split at h
  ·rename_i te hte;simp only [Option.some.injEq] at h;subst h;rw [hk] at q5;obtain rfl := TK.of_slice q5;obtain ⟨hpu, vs, hvl, hr, hv⟩ := z1j.1 r;have hv' := hv;obtain ⟨a, cap, rfl, k2, k3, k4⟩ := hv';simp only [Bool.and_eq_true, beq_iff_eq] at hp;obtain ⟨hs, hp⟩ := hp;obtain ⟨o1, o2, _, _⟩ := z2e hp;have hb := z5f (P := P) (w := w) (b := true) (len := m) (cap := cap) h1 h2 hp k2;refine ⟨_, z4d q2 hte hb, z1j.2 ⟨fun i hi => hpu _ (by omega), (vs.drop (loN lo' * k)).take ((hiN m hi' - loN lo') * k), ?_, fun i hi => ?_, ?_⟩⟩
   ·rw [List.length_take, List.length_drop, hvl, ← Nat.sub_mul, Nat.min_eq_left];exact Nat.mul_le_mul_right k (by omega)
   ·have e : ((List.take ((hiN m hi' - loN lo') * k) (List.drop (loN lo' * k) vs)).drop (i * k)).take k = (vs.drop ((loN lo' + i) * k)).take k := by
     rw [List.drop_take, List.drop_drop, List.take_take, Nat.add_mul, Nat.min_eq_left];rw [← Nat.sub_mul];have : 1 * k ≤ (hiN m hi' - loN lo' - i) * k := Nat.mul_le_mul_right k (by omega)
     omega
    rw [e];exact hr _ (by omega)
   ·rw [hs];exact z7x hv o1 o2 (Nat.le_refl _) (by omega) (ze3 k3)
  ·simp at h
 ·rename_i e id k m f hk
  split at h
  ·rename_i te hte;simp only [Option.some.injEq] at h;subst h;rw [hk] at q5;obtain rfl := TK.of_slice q5;obtain ⟨hpu, vs, hvl, hr, hv⟩ := z1j.1 (z2r.1 r).1;have hv' := hv;obtain ⟨a, cap, rfl, k2, k3, k4⟩ := hv';simp only [Bool.and_eq_true, beq_iff_eq] at hp;obtain ⟨hs, hp⟩ := hp;obtain ⟨o1, o2, _, _⟩ := z2e hp;have hb := z5f (P := P) (w := w) (b := true) (len := m) (cap := cap) h1 h2 hp k2;refine ⟨_, z4d q2 hte hb, z1j.2 ⟨fun i hi => hpu _ (by omega), (vs.drop (loN lo' * k)).take ((hiN m hi' - loN lo') * k), ?_, fun i hi => ?_, ?_⟩⟩
   ·rw [List.length_take, List.length_drop, hvl, ← Nat.sub_mul, Nat.min_eq_left];exact Nat.mul_le_mul_right k (by omega)
   ·have e : ((List.take ((hiN m hi' - loN lo') * k) (List.drop (loN lo' * k) vs)).drop (i * k)).take k = (vs.drop ((loN lo' + i) * k)).take k := by
     rw [List.drop_take, List.drop_drop, List.take_take, Nat.add_mul, Nat.min_eq_left];rw [← Nat.sub_mul];have : 1 * k ≤ (hiN m hi' - loN lo' - i) * k := Nat.mul_le_mul_right k (by omega)
     omega
    rw [e];exact hr _ (by omega)
   ·rw [hs];exact z7x hv o1 o2 (Nat.le_refl _) (by omega) (ze3 k3)
  ·simp at h
 ·rename_i e id off k len hk
  split at h
  ·rename_i te hte;simp only [Option.some.injEq] at h;subst h;rw [hk] at q5;obtain rfl := TK.of_slice q5;simp only [Bool.and_eq_true, beq_iff_eq] at hp;obtain ⟨hs, hp⟩ := hp;obtain ⟨o1, o2, _, _⟩ := z2e hp;obtain ⟨a, cap, rfl, k2, k3⟩ := z169 (z2j.1 r) o1 o2;have hb := z5f (P := P) (w := w) (b := true) (len := len) (cap := cap) h1 h2 hp k2;refine ⟨_, z4d q2 hte hb, z2j.2 ?_⟩;rw [hs];exact k3
  ·simp at h
 ·rename_i a id off hk
  split at h
  ·rename_i ta hta
   split at h
   ·rename_i n e hka
    split at h
    ·rename_i te hte
     split at h
     ·rename_i cs hcs;simp only [Option.some.injEq] at h;subst h;rw [hk] at q5;obtain rfl := TK.z1n0 q5;obtain ⟨ja, da, _, q2a, _, _, q5a, _⟩ := z1a hta;rw [hka] at q5a;obtain rfl := TK.z1lk q5a;simp only [Bool.and_eq_true, bne_iff_ne, ne_eq] at hp;obtain ⟨⟨hle, hne⟩, hp⟩ := hp;have hle := zh.1 hle;obtain ⟨o1, o2, _, _⟩ := z2e hp;obtain ⟨b, g1, rfl⟩ := z4a.1 r;obtain ⟨el, fr, us, rest, g2, g3, g4, g5⟩ := zj3 c hcs g1;have hlen := z3g _ _ g3;have hb := z5f (P := P) (w := w) (b := false) (len := n) (cap := n) h1 h2 hp (Nat.le_refl _);refine ⟨slicedAt ⟨b, off, none⟩ (loN lo') (hiN n hi') n te.size, ?_, z2j.2 ?_⟩
      ·simp [Instr.sliceAt, Instr.sureAddr, Instr.slice, asAddr, run_underlying q2, run_underlying q2a, hb, z5n hte, slicedAt]
      ·by_cases e1 : n = loN lo'
       ·right
        have : hiN n hi' = n := by omega
        exact ⟨by omega, some ⟨b, off, none⟩, by rw [slicedAt, if_pos e1, this, ← e1, Nat.sub_self]⟩
       ·left
        refine ⟨b, n - loN lo', g1, by simp [slicedAt, e1, addr_add], by omega, (Array.getElem?_eq_some_iff.1 g2).1, ?_⟩
        unfold bsz;rw [g2];have : (n - loN lo') * te.size + loN lo' * te.size = n * te.size := by rw [← Nat.add_mul]; congr 1; omega
        simp;omega
     ·simp at h
    ·simp at h
   ·simp at h
  ·simp at h
 ·rename_i n e id off hk
  split at h
  ·rename_i te hte
   split at h
   ·rename_i cs hcs;simp only [Option.some.injEq] at h;subst h;rw [hk] at q5;obtain rfl := TK.z1lk q5;simp only [Bool.and_eq_true, bne_iff_ne, ne_eq] at hp;obtain ⟨⟨hle, hne⟩, hp⟩ := hp;have hle := zh.1 hle;obtain ⟨o1, o2, _, _⟩ := z2e hp;obtain ⟨b, g1, rfl⟩ := z4a.1 r;obtain ⟨el, fr, us, rest, g2, g3, g4, g5⟩ := zj3 c hcs g1;have hlen := z3g _ _ g3;have hb := z5f (P := P) (w := w) (b := false) (len := n) (cap := n) h1 h2 hp (Nat.le_refl _);refine ⟨slicedAt ⟨b, off, none⟩ (loN lo') (hiN n hi') n te.size, ?_, z2j.2 ?_⟩
    ·simp [Instr.sliceAt, Instr.sureAddr, run_underlying q2, hb, z5n hte, slicedAt]
    ·by_cases e1 : n = loN lo'
     ·right
      have : hiN n hi' = n := by omega
      exact ⟨by omega, some ⟨b, off, none⟩, by rw [slicedAt, if_pos e1, this, ← e1, Nat.sub_self]⟩
     ·left
      refine ⟨b, n - loN lo', g1, by simp [slicedAt, e1, addr_add], by omega, (Array.getElem?_eq_some_iff.1 g2).1, ?_⟩
      unfold bsz;rw [g2];have : (n - loN lo') * te.size + loN lo' * te.size = n * te.size := by rw [← Nat.add_mul]; congr 1; omega
      simp;omega
   ·simp at h
  ·simp at h
 ·simp at h
theorem z15v {t : Nat} {ti : TI} (ht : G.ty t = some ti) {x : AV} {vx : Value} (r : rel ρ I w x vx) {lo hi mx : Option Value} {lo' : Option Int} {hi' mx' : Int} (h1 : BV lo lo') (h2 : BV hi (some hi')) (h3 : BV mx (some mx')) {p : Bool × AV}
  (h : aSl3 G ti x lo' hi' mx' = some p) (hp : p.1 = true) : ∃ y, (Instr.sliceAt t vx lo hi mx).run P w = .ok y w ∧ rel ρ I w p.2 y := by
 obtain ⟨j, d, _, q2, _, _, q5, _⟩ := z1a ht;unfold aSl3 at h
 split at h
 ·rename_i e full l hk
  split at h
  ·rename_i te hte;simp only [Option.some.injEq] at h;subst h;rw [hk] at q5;obtain rfl := TK.of_slice q5;obtain ⟨a, cap, rfl, k2, k3, k4⟩ := z22.1 r;have hv := z22.1 r;simp only [Bool.and_eq_true, beq_iff_eq] at hp;obtain ⟨⟨hs, rfl⟩, hp⟩ := hp;obtain ⟨o1, o2, _, _⟩ := z2e hp;have hb := zlg (P := P) (w := w) (b := true) (len := l.length) (cap := cap) h1 h2 h3 hp k2;refine ⟨_, z4d q2 hte hb, z22.2 ?_⟩;rw [hs, z6j hp, zm8 hp];simp only [hiN] at o1 o2 ⊢;exact z7x hv o1 o2 (by omega) (Nat.le_refl _) (fun _ => rfl)
  ·simp at h
 ·rename_i e full k rows hk
  split at h
  ·rename_i te hte;simp only [Option.some.injEq] at h;subst h;rw [hk] at q5;obtain rfl := TK.of_slice q5;obtain ⟨hsz, vs, hr, hv⟩ := z2h.1 r;have hv' := hv;obtain ⟨a, cap, rfl, k2, k3, k4⟩ := hv';simp only [Bool.and_eq_true, beq_iff_eq] at hp;obtain ⟨⟨hs, rfl⟩, hp⟩ := hp;obtain ⟨o1, o2, _, _⟩ := z2e hp;have hb := zlg (P := P) (w := w) (b := true) (len := rows.length) (cap := cap) h1 h2 h3 hp k2;obtain ⟨r1, r2⟩ := zt0 hsz hr hp;refine ⟨_, z4d q2 hte hb, z2h.2 ⟨r2, _, r1, ?_⟩⟩;rw [hs, z6j hp];simp only [hiN] at o1 o2 ⊢;exact z7x hv o1 o2 (by omega) (Nat.le_refl _) (fun _ => rfl)
  ·simp at h
 ·simp at h
end
section
variable {P : Program} {G : Env P} {ρ : Rho} {I : Imm} {H : Heap} {w : World}
theorem z9b {a : AV} {xs : List Value} (h : R ρ I w a xs) : ∀ (n : Nat), RL ρ I w (List.replicate n a) (List.replicate n xs).flatten
 | 0 => by simp [RL]
 | n + 1 => by
  rw [List.replicate_succ, List.replicate_succ, List.flatten_cons];exact ⟨_, _, rfl, h, z9b h n⟩
theorem zbf (z : Array Value) (hz : 0 < z.size) (m : Nat) : ((Array.range (m * z.size)).map (z[·% z.size]!)).toList = (List.replicate m z.toList).flatten := by
 apply List.ext_getElem?;have hlen : ∀ m, (List.replicate m z.toList).flatten.length = m * z.size := fun m => by simp
 intro i;rcases Nat.lt_or_ge i (m * z.size) with hi | hi
 ·have key : ∀ m i, i < m * z.size → (List.replicate m z.toList).flatten[i]? = z[i % z.size]? := by
   intro m
   induction m with
   | zero => intro i h; omega
   | succ m ih =>
    intro i h;rw [List.replicate_succ, List.flatten_cons];rcases Nat.lt_or_ge i z.size with h1 | h1
    ·rw [List.getElem?_append_left (by simpa using h1), Nat.mod_eq_of_lt h1]; simp
    ·rw [List.getElem?_append_right (by simpa using h1)]
     have : i - z.toList.length = i - z.size := by simp
     rw [this, ih (i - z.size) (by rw [Nat.add_mul] at h; omega)]
     congr 1
     exact (Nat.mod_eq_sub_mod h1).symm
  rw [key m i hi];have hmod : i % z.size < z.size := Nat.mod_lt _ hz;simp [hi, hmod]
 ·rw [List.getElem?_eq_none (by simpa using hi), List.getElem?_eq_none (by rw [hlen]; exact hi)]
theorem zi9 : ∀ (n : Nat), (List.replicate n [Value.int .u8 0]).flatten = v8 (List.replicate n 0)
 | 0 => rfl
 | n + 1 => by rw [List.replicate_succ, List.flatten_cons, zi9 n]; simp [v8, List.replicate_succ]
theorem znc {g : Nat → Option (List AV)} (c : Conc g ρ I H w) {nid : Nat} (hn : H[nid]? = some .res) {t tx ty e : Nat} {j : TypeInfo} {zv : Value} (ht : P.underlying t = some (.slice e)) (hj : P.info? e = some j) (hz : j.zero = some zv) (hzs : zv.cells.size = j.size)
  {base : Option Addr} {len cap n : Nat} {olds news : List Value} {x : Value} (hold : (Builtin.firstCells j.size len (.slice base len cap)).run P w.drew = .ok olds.toArray w.drew) (hol : olds.length = len * j.size) (hs : Src P j.size tx x n news w)
  (hg : cap < len + n) (hb : (len + n) * j.bytes ≤ 140737488355328) (hb0 : 0 < j.bytes) {ent : Ent} (he : ent.grows = true) (hev : ent.even) (hr : RL ρ I w ent.cells (olds ++ news)) :
  ∃ v w', (Builtin.append_ #[t, tx] ty #[.slice base len cap, x]).run P w = .ok v w' ∧ Good ρ I H w (z1e ρ nid (some w.heap.size)) I (H.set nid ent) w' ∧ Conc g (z1e ρ nid (some w.heap.size)) I (H.set nid ent) w' ∧
   Mono ρ I w (z1e ρ nid (some w.heap.size)) I w' ∧ rel (z1e ρ nid (some w.heap.size)) I w' (.sl nid 0 j.size (len + n)) v := by
 have h63 : ((len + n : Nat) : Int) ≤ 9223372036854775807 := by
  have : len + n ≤ (len + n) * j.bytes := Nat.le_mul_of_pos_right _ hb0;omega
 have hrun := run_append_grow_src w t tx ty e j zv ht hj hz base len cap olds hold x n news hs hg h63 (growslice_fits hg hb);have harr : ((olds ++ news).toArray ++ Builtin.zeroCells zv.cells (grownCap w (len + n) cap e - (len + n))) = ((olds ++ news) ++ (Builtin.zeroCells zv.cells (grownCap w (len + n) cap e - (len + n))).toList).toArray := by simp
 rw [harr] at hrun;have hge := grownCap_ge w (len + n) cap e;have hzl : (Builtin.zeroCells zv.cells (grownCap w (len + n) cap e - (len + n))).toList.length = (grownCap w (len + n) cap e - (len + n)) * j.size := by
  rw [Array.length_toList, size_zeroCells, hzs]
 have hnew := z69 w.drew (.cells ((olds ++ news) ++ (Builtin.zeroCells zv.cells (grownCap w (len + n) cap e - (len + n))).toList).toArray e);obtain ⟨g1, g2, g3⟩ := zh4 (w' := w.drew.alloc (.cells ((olds ++ news) ++ (Builtin.zeroCells zv.cells (grownCap w (len + n) cap e - (len + n))).toList).toArray e)) c hn he hev (by simp) (fun b hb => alloc_old w.drew _ hb) hnew hr ⟨Nat.le_refl _, fun o _ => by simp⟩ rfl rfl rfl
 refine ⟨_, _, hrun, g1, g2, g3, zo1 (by simp) hnew hge ?_⟩
 rw [List.length_append, List.length_append, hol, hs.newsLen, hzl, ← Nat.add_mul, ← Nat.add_mul];exact Nat.mul_le_mul_right _ (by omega)
theorem z6u {t tx ty e : Nat} {j : TypeInfo} (ht : P.underlying t = some (.slice e)) (hj : P.info? e = some j) {base : Option Addr} {len cap : Nat} {x : Value} (hle : len ≤ cap) (hs : Src P j.size tx x 0 [] w) :
  (Builtin.append_ #[t, tx] ty #[.slice base len cap, x]).run P w = .ok (.slice base len cap) w := by
 have h1 := hs.len w;have h2 := hs.cells;rcases hs.kind with ⟨e', h⟩ | h
 ·cases base with
  | none => simp [Builtin.append_, run_underlying ht, run_sizeOf hj, run_underlying h, h1, hle, h2]
  | some a => simp [Builtin.append_, run_underlying ht, run_sizeOf hj, run_underlying h, h1, hle, h2, storeCells]
 ·cases base with
  | none => simp [Builtin.append_, run_underlying ht, run_sizeOf hj, run_underlying h, h1, hle, h2]
  | some a => simp [Builtin.append_, run_underlying ht, run_sizeOf hj, run_underlying h, h1, hle, h2, storeCells]
theorem zoq {a : Option Addr} {len cap k : Nat} {vs : List Value} (hl : vs.length = len * k) (h : len = 0 ∨ ∃ b off, a = some ⟨b, off, none⟩ ∧ ∀ i x, vs[i]? = some x → w.cell? ⟨b, off + i, none⟩ = some x) :
  (Builtin.firstCells k len (.slice a len cap)).run P w.drew = .ok vs.toArray w.drew := by
 rcases h with rfl | ⟨b, off, rfl, h⟩
 ·have : vs = [] := List.eq_nil_of_length_eq_zero (by simpa using hl)
  subst this;cases a with
  | none => exact run_firstCells_none w.drew k 0 0 cap
  | some a => exact run_firstCells_some w.drew k 0 a 0 cap [] (by simp) (fun j u hu => by simp at hu)
 ·exact run_firstCells_some w.drew k len ⟨b, off, none⟩ len cap vs hl (fun i x hx => by rw [addr_add]; simpa using h i x hx)
theorem src_of {tx e' : Nat} (hk : P.underlying tx = some (.slice e')) {a : Option Addr} {len cap k : Nat} {vs : List Value} (hl : vs.length = len * k) (h : len = 0 ∨ ∃ b off, a = some ⟨b, off, none⟩ ∧ ∀ i x, vs[i]? = some x → w.cell? ⟨b, off + i, none⟩ = some x)
  (h1 : ∀ u ∈ vs, u.oneCell' = true) : Src P k tx (.slice a len cap) len vs w := by
 rcases h with rfl | ⟨b, off, rfl, h⟩
 ·have : vs = [] := List.eq_nil_of_length_eq_zero (by simpa using hl)
  subst this;cases a with
  | none => exact Src.ofNil w hk cap
  | some a => exact Src.ofSlice w hk a 0 cap [] (by simp) (fun j u hu => by simp at hu) (fun u hu => by simp at hu)
 ·exact Src.ofSlice w hk ⟨b, off, none⟩ len cap vs hl (fun i x hx => by rw [addr_add]; exact h i x hx) h1
end
section
variable {P : Program} {G : Env P} {ρ : Rho} {I : Imm} {H : Heap} {w : World}
theorem z7u {e : Ent} (h : e.grows = true) : e.live = true := by cases e <;> simp_all [Ent.grows, Ent.live]
theorem zgz {g : Nat → Option (List AV)} (c : Conc g ρ I H w) {nid id : Nat} (hn : H[nid]? = some .res) {e0 : Ent} (hid : H[id]? = some e0) (hg0 : e0.grows = true) {t tx ty e : Nat} {j : TypeInfo} {zv : Value}
  (ht : P.underlying t = some (.slice e)) (hj : P.info? e = some j) (hz : j.zero = some zv) (hzs : zv.cells.size = j.size) (hb0 : 0 < j.bytes) {len n : Nat} {v x : Value} {news : List Value} (hv : slR ρ w id 0 j.size len v) (h0 : szL e0.cells = len * j.size)
  (hs : Src P j.size tx x n news w) (hb : (len + n) * j.bytes ≤ 140737488355328) {ent : Ent} (he : ent.grows = true) (hev : ent.even) (hf : ent.frz = e0.frz)
  (hent : ∀ cs, (RL ρ I w e0.cells cs ∨ (len = 0 ∧ cs = [])) → RL ρ I w ent.cells (cs ++ news)) (hf0 : ∀ o, z43 e0.frz o → o < len * j.size) :
  ∃ v' w' ρ', (Builtin.append_ #[t, tx] ty #[v, x]).run P w = .ok v' w' ∧ Good ρ I H w ρ' I (zm H [(nid, ent), (id, .dead)]) w' ∧ Conc g ρ' I (zm H [(nid, ent), (id, .dead)]) w' ∧ Mono ρ I w ρ' I w' ∧ rel ρ' I w' (.sl nid 0 j.size (len + n)) v' ∧ (∀ b, ρ' nid = some (some b) → ρ id = some (some b) ∨ w.heap.size ≤ b) := by
 have hne : id ≠ nid := by rintro rfl; rw [hid] at hn; simp at hn; subst hn; simp [Ent.grows] at hg0
 have hres : ∀ e1 : Ent, (H.set nid e1)[id]? ≠ some .res := by
  intro e1;rw [List.getElem?_set_ne (Ne.symm hne), hid];intro h;simp at h;subst h;simp [Ent.grows] at hg0
 have fresh : ∀ {base : Option Addr} {cap : Nat} {olds : List Value}, v = .slice base len cap → (Builtin.firstCells j.size len (.slice base len cap)).run P w.drew = .ok olds.toArray w.drew → olds.length = len * j.size → cap < len + n →
   RL ρ I w ent.cells (olds ++ news) → ∃ v' w' ρ', (Builtin.append_ #[t, tx] ty #[v, x]).run P w = .ok v' w' ∧ Good ρ I H w ρ' I (zm H [(nid, ent), (id, .dead)]) w' ∧ Conc g ρ' I (zm H [(nid, ent), (id, .dead)]) w' ∧ Mono ρ I w ρ' I w' ∧ rel ρ' I w' (.sl nid 0 j.size (len + n)) v' ∧ (∀ b, ρ' nid = some (some b) → ρ id = some (some b) ∨ w.heap.size ≤ b) := by
  rintro base cap olds rfl hold hol hg hr;obtain ⟨v', w', k1, k2, k3, k4, k5⟩ := znc (ty := ty) c hn ht hj hz hzs hold hol hs hg hb hb0 he hev hr;obtain ⟨d1, d2⟩ := zqt k3 id (hres ent);exact ⟨v', w', _, k1, k2.trans d1, d2, k4, k5, fun b hb => .inr (by simp [z1e] at hb; omega)⟩
 rcases hv with ⟨b, cap, h1, rfl, h2, h3, h4⟩ | ⟨rfl, a, rfl⟩
 ·obtain ⟨_, hgr⟩ := c.grow id e0 hid hg0;rcases hgr with ⟨q1, _⟩ | ⟨b', el, fr, cs, rest, q1, q2, q3, q4⟩
  ·rw [q1] at h1; simp at h1
  rw [q1] at h1;simp only [Option.some.injEq] at h1;subst h1;have hcs : cs.length = len * j.size := by rw [z3g _ _ q3, h0]
  have hbs : bsz w b' = (cs ++ rest).length := by unfold bsz; rw [q2]; simp
  have hcell : ∀ i x, cs[i]? = some x → w.cell? ⟨b', 0 + i, none⟩ = some x := fun i x hx => by
   rw [Nat.zero_add, cell_of_heap q2, List.getElem?_append_left (List.getElem?_eq_some_iff.1 hx).1]; exact hx
  by_cases hroom : len + n ≤ cap
  ·rw [hbs] at h4;have hnl := hs.newsLen;have hle : len * j.size + news.length ≤ (cs ++ rest).length := by
    rw [hnl, ← Nat.add_mul];exact Nat.le_trans (Nat.mul_le_mul_right _ hroom) (by omega)
   have hrun := run_append_room_src w t tx ty e j ht hj b' 0 len cap x n news hs hroom
    (fun i hi => by rw [cell_of_heap q2, List.getElem?_eq_getElem (by omega)]; rfl)
    (fun i hi => by
     have := q4.2 (0 + len * j.size + i) (by omega)
     unfold World.frozen?;rw [q2];simpa using this)
   rw [Nat.zero_add, z6k news (len * j.size) (cs ++ rest) w q2 hle] at hrun;have hsp : z18 (cs ++ rest) (len * j.size) news = (cs ++ news) ++ rest.drop news.length := by
    unfold z18;rw [← hcs, List.take_left, ← List.drop_drop, List.drop_left, List.append_assoc]
   have hlen : (z18 (cs ++ rest) (len * j.size) news).length = (cs ++ rest).length := z82 hle;have hfz : ∀ o, z43 e0.frz o → (z18 (cs ++ rest) (len * j.size) news)[o]? = (cs ++ rest)[o]? := fun o ho => zdx hle (.inl (hf0 o ho))
   have gw := z6e (I := I) (e' := ent) hid (z7u hg0) q1 q2 hlen hfz hf (fun _ => hg0)
   obtain ⟨cw, mw⟩ := z7w (e' := ent) c hid (z7u hg0) q1 q2 hlen hfz hf (fun _ => hg0) (z7u he) q4 (fun cs' f h => by rw [h] at he; simp [Ent.grows] at he)
    (fun _ => ⟨hev, cs ++ news, rest.drop news.length, hsp, hent cs (.inl q3)⟩)
   have hlt : id < H.length := (List.getElem?_eq_some_iff.1 hid).1;have hid1 : (H.set id ent)[id]? = some ent := by simp [hlt]
   have hn1 : (H.set id ent)[nid]? = some .res := by rw [List.getElem?_set_ne hne]; exact hn
   obtain ⟨m1, m2, m3⟩ := z14i cw hid1 (z7u he) q1 hn1;have hset : ((H.set id ent).set nid ent).set id .dead = zm H [(nid, ent), (id, .dead)] := by
    show _ = (H.set nid ent).set id .dead;rw [List.set_comm _ _ hne, List.set_set]
   rw [hset] at m1 m2;refine ⟨_, _, _, hrun, gw.trans m1, m2, ⟨fun i x h => m3.ext i x (mw.ext i x h), fun b o h => ?_, fun b h => ?_⟩, z2j.2 (.inl ⟨b', cap, by simp [z1e], rfl, hroom, ?_, ?_⟩), fun b hb => .inl (by simp [z1e] at hb; rw [q1, hb])⟩
   ·exact ⟨(m3.imm b o (mw.imm b o h).1).1, ((m3.imm b o (mw.imm b o h).1).2).trans (mw.imm b o h).2⟩
   ·exact ⟨(m3.sz b (mw.sz b h).1).1, ((m3.sz b (mw.sz b h).1).2).trans (mw.sz b h).2⟩
   ·exact (mw.sz b' h3).1
   ·rw [(mw.sz b' h3).2, hbs]; exact h4
  ·exact fresh rfl (zoq hcs (.inr ⟨b', 0, rfl, hcell⟩)) hcs (by omega) (hent cs (.inl q3))
 ·rcases Nat.eq_zero_or_pos n with rfl | hpos
  ·have hnews : news = [] := List.eq_nil_of_length_eq_zero (by rw [hs.newsLen, Nat.zero_mul])
   subst hnews;have hrun := z6u (ty := ty) ht hj (base := a) (Nat.le_refl 0) hs;have hr := hent [] (.inr ⟨rfl, rfl⟩);have hsz : szL ent.cells = 0 := by have := z3g _ _ hr; simpa using this.symm
   obtain ⟨f1, f2, f3⟩ := zdd (w' := w) c hn ent none (fun b hb => by simp at hb) (Nat.le_refl _) (fun _ _ => rfl) (z7u he) (fun cs' f h => by rw [h] at he; simp [Ent.grows] at he) (fun _ => ⟨hev, .inl ⟨rfl, hsz⟩⟩) rfl rfl rfl
   obtain ⟨d1, d2⟩ := zqt f2 id (hres ent);exact ⟨_, _, _, hrun, f1.trans d1, d2, f3, z2j.2 (.inr ⟨rfl, a, rfl⟩), fun b hb => by simp [z1e] at hb⟩
  ·exact fresh rfl (zoq (vs := []) (by simp) (.inl rfl)) (by simp) (by omega) (hent [] (.inr ⟨rfl, rfl⟩))
end
section
variable {P : Program} (G : Env P)
def zhb (tix : TI) (H : Heap) (x : AV) : Option (Bool × List UInt8) :=
 match x with
 | .str s => match tix.kind with
  | .string => some (true, s)
  | _ => none
 | x => match tix.kind with
  | .slice _ => z3q H x
  | _ => none
def zpg (tix : TI) (H : Heap) (x : AV) : Option (Nat × Bool × List AV) :=
 match tix.kind with
 | .slice _ => match x with
  | .vec _ k rows => some (k, true, rows)
  | .vecr _ k n f => some (k, true, (List.range n).map fun i => .agg (f i))
  | .slv _ k n f => some (k, true, (List.range n).map fun i => .agg (f i))
  | .sl id off k len => match H[id]? with
   | some (.grow k' rows _) => some (k, (k == k' && off == 0) && leB len rows.length, rows.take len)
   | some (.blk cs _) => some (k, ((k == 1 && (flL (z6x (z56 cs off) len)).length == len) && (flL (z6x (z56 cs off) len)).all fun a => szA a == 1), flL (z6x (z56 cs off) len))
   | _ => none
  | _ => none
 | _ => none
def zpt : AV → Bool
 | .u8 x => x == 0
 | _ => false
def z6z (te : TI) (z : AV) : Bool := (known z && szA z == te.size) && (te.bytes != 0 && te.size != 0)
def zm1 (te : TI) (H : Heap) (nid : Nat) (s : AV) (new : List UInt8) : Option Eff :=
 match s with
 | .vec8 full l => some (.br l.isEmpty
   (.ck full (.ck (leB (new.length * te.bytes) 140737488355328) (.one true (.sl nid 0 1 new.length) [(nid, .grow8 new [])])))
   (.br new.isEmpty (.one true (.vec8 full l) []) (.ck full (.ck (leB ((l.length + new.length) * te.bytes) 140737488355328) (.one true (.sl nid 0 1 (l.length + new.length)) [(nid, .grow8 (l ++ new) [])])))))
 | .sl id off k len => match H[id]? with
  | some (.grow8 l f) => some (.ck ((off == 0 && k == 1) && f.isEmpty) (.ck (len == l.length) (.ck (leB ((len + new.length) * te.bytes) 140737488355328)
    (.one true (.sl nid 0 1 (len + new.length)) [(nid, .grow8 (l ++ new) []), (id, .dead)]))))
  | _ => none
 | _ => none
def zp7 (te : TI) (H : Heap) (nid : Nat) (s : AV) (new : List AV) : Option Eff :=
 match s with
 | .vec full k l => some (.ck (k == te.size) (.br l.isEmpty
   (.ck full (.ck (leB (new.length * te.bytes) 140737488355328) (.one true (.sl nid 0 te.size new.length) [(nid, .grow te.size new [])])))
   (.br new.isEmpty (.one true (.vec full k l) []) (.ck full (.ck (leB ((l.length + new.length) * te.bytes) 140737488355328) (.one true (.sl nid 0 te.size (l.length + new.length)) [(nid, .grow te.size (l ++ new) [])]))))))
 | .sl id off k len => match H[id]? with
  | some (.grow k' l f) => some (.ck ((off == 0 && (k == te.size && k' == te.size)) && f.isEmpty) (.ck (len == l.length) (.ck (leB ((len + new.length) * te.bytes) 140737488355328)
    (.one true (.sl nid 0 te.size (len + new.length)) [(nid, .grow te.size (l ++ new) []), (id, .dead)]))))
  | _ => none
 | .vec8 full l => some (.ck l.isEmpty (.ck full (.ck (leB (new.length * te.bytes) 140737488355328) (.one true (.sl nid 0 te.size new.length) [(nid, .grow te.size new [])]))))
 | _ => none
def zh8 : Nat → Option Nat
 | 0 => none
 | n + 1 => match G.ty n with
  | some ti => match ti.kind with
   | .string => some n
   | _ => zh8 n
  | none => zh8 n
def srcZ (tix : TI) (s x : AV) : Option (Int × Nat) :=
 match tix.kind, x, zh8 G 64 with
 | .int _, .int .i64 n, some _ => match s with
  | .vec8 _ l => some (n, l.length)
  | .sl _ _ _ len => some (n, len)
  | _ => none
 | _, _, _ => none
def zci (t tx : Nat) (H : Heap) (nid : Nat) (s x : AV) : Option Eff :=
 match G.ty t, G.ty tx with
 | some ti, some tix => match ti.kind with
  | .slice e => match G.ty e with
   | some te => match te.zero with
    | some z => match te.kind with
     | .int .u8 => match zhb tix H x with
      | some (c, new) => match zm1 te H nid s new with
       | some E => some (.ck (z34 H nid && (z6z te z && te.size == 1)) (.ck c E))
       | none => none
      | none => match srcZ G tix s x with
       | some (n, len) => match zm1 te H nid s (List.replicate n.toNat 0) with
        | some E => some (.ck (z34 H nid && (z6z te z && te.size == 1)) (.ck (zpt z && nnB n) (.ck (leB ((len + n.toNat) * te.bytes) 140737488355328) E)))
        | none => none
       | none => none
     | _ => match zpg tix H x with
      | some (k, c, new) => match zp7 te H nid s new with
       | some E => some (.ck (z34 H nid && (z6z te z && k == te.size)) (.ck c (.ck (z7e new) E)))
       | none => none
      | none => none
    | none => none
   | none => none
  | _ => none
 | _, _ => none
def zkg (t tx : Nat) (H : Heap) (d x : AV) : Option Eff :=
 match G.ty t, G.ty tx with
 | some ti, some tix => match ti.kind with
  | .slice e => match G.ty e with
   | some te => match zhb tix H x with
    | some (c, new) => match d with
     | .sl id off k len => match H[id]? with
      | some (.grow8 l f) => some (.ck (te.size == 1 && (k == 1 && f.isEmpty)) (.ck c (.ck (leB (off + len) l.length)
        (.one true (.int .i64 (min new.length len : Nat)) [(id, .grow8 (l.take off ++ (new.take len ++ l.drop (off + min new.length len))) f)]))))
      | some (.blk cs f) => match z6x (z56 cs off) len with
       | [.b8 m l] => some (.ck ((te.size == 1 && (k == 1 && f.isEmpty)) && ((m == len && len != 0) && leB (off + len) (szL cs))) (.ck c
         (.one true (.int .i64 (min new.length len : Nat)) [(id, .blk (za0 cs off (.b8 len (new.take len ++ l.drop (min new.length len)))) f)])))
       | _ => none
      | _ => none
     | _ => none
    | none => none
   | none => none
  | _ => none
 | _, _ => none
def zsx (t : Nat) (H : Heap) (nid : Nat) (l c : AV) : Option Eff :=
 match G.ty t, l.toI, c.toI with
 | some ti, some (_, n), some (_, m) => match ti.kind with
  | .slice e => match G.ty e with
   | some te => match te.zero with
    | some z => some (.ck (z34 H nid && z6z te z) (.ck (nnB n) (.ck (n == m) (.ck (leB (n.toNat * te.bytes) 140737488355328) (match te.kind with
     | .int .u8 => .ck (te.size == 1 && zpt z) (.one true (.sl nid 0 1 n.toNat) [(nid, .grow8 (List.replicate n.toNat 0) [])])
     | _ => .one true (.sl nid 0 te.size n.toNat) [(nid, .grow te.size (List.replicate n.toNat z) [])])))))
    | none => none
   | none => none
  | _ => none
 | _, _, _ => none
def z6o (t : Nat) (len : Nat) (H : Heap) (nid : Nat) (parts : List (Nat × AV)) : Option Eff :=
 match G.ty t with
 | some ti => match ti.kind with
  | .slice e => match G.ty e with
   | some te => match te.zero with
    | some z => match te.kind with
     | .int .u8 => bif len == 0 then some (.one parts.isEmpty (.vec8 true []) []) else match zax (z85 te.size) [.b8 len (List.replicate len 0)] parts with
      | some (c, [.b8 m l]) => some (.ck ((z34 H nid && (z6z te z && (te.size == 1 && zpt z))) && (m == len && leB len 16777216)) (.one c (.sl nid 0 1 len) [(nid, .grow8 l [])]))
      | some (c, [.u8 x]) => some (.ck ((z34 H nid && (z6z te z && (te.size == 1 && zpt z))) && len == 1) (.one c (.sl nid 0 1 1) [(nid, .grow8 [x] [])]))
      | _ => none
     | _ => bif len == 0 then some (.one parts.isEmpty (.vec true te.size []) []) else match zax (z85 te.size) (List.replicate len z) parts with
      | some (c, rows) => some (.ck ((z34 H nid && z6z te z) && (rows.length == len && leB (len * te.size) 16777216)) (.ck (rows.all fun r => szA r == te.size) (.one c (.sl nid 0 te.size len) [(nid, .grow te.size rows [])])))
      | none => none
    | none => none
   | none => none
  | _ => none
 | none => none
def z81 (op : Op) (ev : Operand → AV) (H : Heap) (nid : Nat) : Option Eff :=
 match op with
 | .slice t x lo hi mx => match G.ty t, zam ev lo, zam ev hi with
  | some ti, some lo', some hi' => match mx with
   | none => match aSl G ti H (ev x) lo' hi' with
    | some (c, v) => some (.one c v [])
    | none => none
   | some m => match hi', (ev m).toI with
    | some h, some (_, n) => match aSl3 G ti (ev x) lo' h n with
     | some (c, v) => some (.one c v [])
     | none => none
    | _, _ => none
  | _, _, _ => none
 | .makeSlice t l c => zsx G t H nid (ev l) (ev c)
 | .buildSlice t len parts => z6o G t len H nid (parts.toList.map fun p => (p.1, ev p.2))
 | .convert s d x => match G.ty s, G.ty d, ev x with
  | some ts, some td, .sl id off k len => match ts.kind, td.kind with
   | .slice _, .slice e => match G.ty e with
    | some te => match te.kind with
     | .int .u8 => match H[id]? with
      | some (.grow8 _ f) => some (.ck ((s == d && f.isEmpty) && ltB 0 len) (.one true (.sl id off k len) []))
      | _ => none
     | _ => none
    | none => none
   | _, _ => none
  | some ts, some td, .str l => match ts.kind, td.kind with
   | .string, .slice e => match G.ty e with
    | some te => match te.kind with
     | .int .u8 => some (.ck (z34 H nid && te.size == 1) (.one true (.sl nid 0 1 l.length) [(nid, .grow8 l [])]))
     | _ => none
    | none => none
   | _, _ => none
  | _, _, _ => none
 | .call c => match c.callee with
  | .builtin .append => match c.args.toList, c.argTypes.toList with
   | [s, x], [t, tx] => zci G t tx H nid (ev s) (ev x)
   | _, _ => none
  | .builtin .copy => match c.args.toList, c.argTypes.toList with
   | [d, x], [t, tx] => zkg G t tx H (ev d) (ev x)
   | _, _ => none
  | _ => none
 | _ => none
end
section
variable {P : Program} {G : Env P} {ρ : Rho} {I : Imm} {H : Heap} {w : World}
theorem z11l (c : Conc G.g ρ I H w) {tx : Nat} {tix : TI} (htx : G.ty tx = some tix) {x : AV} {vx : Value} (r : rel ρ I w x vx) {p : Bool} {l : List UInt8} (h : zhb tix H x = some (p, l)) (hp : p = true) : Src P 1 tx vx l.length (v8 l) w := by
 obtain ⟨j, d, _, q2, _, _, q5, _⟩ := z1a htx;have one : ∀ l : List UInt8, ∀ u ∈ v8 l, u.oneCell' = true := fun l u hu => by
  simp only [v8, List.mem_map] at hu;obtain ⟨y, _, rfl⟩ := hu;rfl
 unfold zhb at h
 split at h
 ·rename_i s
  split at h
  ·rename_i hk;simp only [Option.some.injEq, Prod.mk.injEq] at h;obtain ⟨_, rfl⟩ := h;rw [hk] at q5;obtain rfl := TK.of_string q5;obtain rfl := zi.1 r;have := Src.ofString (P := P) w q2 ⟨s.toArray⟩;have e : byteCells ⟨s.toArray⟩ = v8 s := by simp [byteCells, v8]
   rw [e] at this;simpa [ByteArray.size] using this
  ·simp at h
 ·split at h
  ·rename_i e' hk;rw [hk] at q5;obtain rfl := TK.of_slice q5;obtain ⟨a, cap, rfl, hc⟩ := z65 c h hp r;exact src_of q2 (by simp [z1k]) (hc.imp (fun h => by rw [h]; rfl) fun ⟨b, off, h1, h2⟩ => ⟨b, off, h1, h2⟩) (one l)
  ·simp at h
theorem ze8 {k : Nat} {f : Nat → List AV} : ∀ (n : Nat) (vs : List Value), vs.length = n * k → (∀ i, i < n → RL ρ I w (f i) ((vs.drop (i * k)).take k)) → RL ρ I w ((List.range n).map fun i => AV.agg (f i)) vs
 | 0, vs, h, _ => by
  rw [Nat.zero_mul] at h;rw [List.eq_nil_of_length_eq_zero h]; rfl
 | n + 1, vs, h, hr => by
  have hs : (n + 1) * k = n * k + k := by rw [Nat.add_mul, Nat.one_mul]
  have ih := ze8 (k := k) (f := f) n (vs.take (n * k)) (by rw [List.length_take]; omega) fun i hi => by
   have h1 : (i + 1) * k ≤ n * k := Nat.mul_le_mul_right k (by omega)
   rw [Nat.add_mul, Nat.one_mul] at h1;rw [List.drop_take, List.take_take, Nat.min_eq_left (by omega)]
   exact hr i (by omega)
  have hl := hr n (Nat.lt_succ_self n);rw [List.take_of_length_le (by rw [List.length_drop]; omega)] at hl
  rw [List.range_succ, List.map_append];have := z7j ih (show RL ρ I w (List.map (fun i => AV.agg (f i)) [n]) (vs.drop (n * k)) from ⟨_, [], by simp, hl, rfl⟩)
  rwa [List.take_append_drop] at this
theorem z11f (c : Conc G.g ρ I H w) {tx : Nat} {tix : TI} (htx : G.ty tx = some tix) {x : AV} {vx : Value} (r : rel ρ I w x vx) {p : Bool} {k : Nat} {rows : List AV} (h : zpg tix H x = some (k, p, rows)) (hp : p = true) (ho : z7e rows = true) :
  ∃ vs, RL ρ I w rows vs ∧ (∀ a ∈ rows, szA a = k) ∧ Src P k tx vx rows.length vs w := by
 obtain ⟨j, d, _, q2, _, _, q5, _⟩ := z1a htx;have hlen : ∀ {rows : List AV} {vs : List Value}, (∀ a ∈ rows, szA a = k) → RL ρ I w rows vs → vs.length = rows.length * k := by
  intro rows
  induction rows with
  | nil => intro vs _ h; cases h; simp
  | cons a as ih =>
   intro vs hk h;obtain ⟨ys, zs, rfl, h1, h2⟩ := z12.1 h;rw [List.length_append, z3o a ys h1, hk a (by simp), ih (fun b hb => hk b (by simp [hb])) h2, List.length_cons, Nat.add_mul, Nat.one_mul, Nat.add_comm]
 unfold zpg at h
 split at h
 ·rename_i e' hk;rw [hk] at q5;obtain rfl := TK.of_slice q5
  split at h
  ·rename_i full k' rows';simp only [Option.some.injEq, Prod.mk.injEq] at h;obtain ⟨rfl, _, rfl⟩ := h;obtain ⟨hsz, vs, hr, a, cap, rfl, h2, _, h4⟩ := z2h.1 r;refine ⟨vs, hr, hsz, src_of q2 (hlen hsz hr) (h4.imp id ?_) (z47 _ _ hr ho)⟩;rintro ⟨b, off, rfl, _, hl⟩;exact ⟨b, off, rfl, fun i x hx => (hl i x hx).1⟩
  ·rename_i full k' n f;simp only [Option.some.injEq, Prod.mk.injEq] at h;obtain ⟨rfl, _, rfl⟩ := h;obtain ⟨_, vs, hvl, hr, a, cap, rfl, h2, _, h4⟩ := z1j.1 r;have hr' := ze8 n vs hvl hr;have hsz : ∀ a ∈ ((List.range n).map fun i => AV.agg (f i)), szA a = k' := by
    intro a ha;obtain ⟨i, hi, rfl⟩ := List.mem_map.1 ha;have := z3g _ _ (hr i (List.mem_range.1 hi));rw [List.length_take, List.length_drop, hvl, ← Nat.sub_mul] at this;have h1 : 1 * k' ≤ (n - i) * k' := Nat.mul_le_mul_right k' (by have := List.mem_range.1 hi; omega)
    show szL (f i) = k';omega
   refine ⟨vs, hr', hsz, ?_⟩;have hl' : ((List.range n).map fun i => AV.agg (f i)).length = n := by simp
   rw [hl'];refine src_of q2 hvl (h4.imp id ?_) (z47 _ _ hr' ho);rintro ⟨b, off, rfl, _, hl⟩;exact ⟨b, off, rfl, fun i x hx => (hl i x hx).1⟩
  ·rename_i idx k' n f;simp only [Option.some.injEq, Prod.mk.injEq] at h;obtain ⟨rfl, _, rfl⟩ := h;obtain ⟨_, vs, hvl, hr, a, cap, rfl, h2, _, h4⟩ := z1j.1 (z2r.1 r).1;have hr' := ze8 n vs hvl hr;have hsz : ∀ a ∈ ((List.range n).map fun i => AV.agg (f i)), szA a = k' := by
    intro a ha;obtain ⟨i, hi, rfl⟩ := List.mem_map.1 ha;have := z3g _ _ (hr i (List.mem_range.1 hi));rw [List.length_take, List.length_drop, hvl, ← Nat.sub_mul] at this;have h1 : 1 * k' ≤ (n - i) * k' := Nat.mul_le_mul_right k' (by have := List.mem_range.1 hi; omega)
    show szL (f i) = k';omega
   refine ⟨vs, hr', hsz, ?_⟩;have hl' : ((List.range n).map fun i => AV.agg (f i)).length = n := by simp
   rw [hl'];refine src_of q2 hvl (h4.imp id ?_) (z47 _ _ hr' ho);rintro ⟨b, off, rfl, _, hl⟩;exact ⟨b, off, rfl, fun i x hx => (hl i x hx).1⟩
  ·rename_i id off k' len
   split at h
   ·rename_i k2 rows' f hid;simp only [Option.some.injEq, Prod.mk.injEq] at h;obtain ⟨rfl, rfl, rfl⟩ := h;simp only [Bool.and_eq_true, beq_iff_eq] at hp;obtain ⟨⟨rfl, rfl⟩, hle⟩ := hp;have hle := zh.1 hle;obtain ⟨hev, hg⟩ := c.grow id _ hid rfl;have hev' : ∀ a ∈ rows', szA a = k' := hev;have hl' : (rows'.take len).length = len := by rw [List.length_take, Nat.min_eq_left hle]
    have hev2 : ∀ a ∈ rows'.take len, szA a = k' := fun a ha => hev' a (List.mem_of_mem_take ha)
    rcases z2j.1 r with ⟨bl, cap, h1, rfl, h3, h4, h5⟩ | ⟨rfl, a, rfl⟩
    ·rcases hg with ⟨g1, _⟩ | ⟨b', el, fr, us, rest, g1, g2, g3, g4⟩
     ·rw [g1] at h1; simp at h1
     ·rw [g1] at h1;simp only [Option.some.injEq] at h1;subst h1;have hr := zat len hev' g3;refine ⟨_, hr, hev2, ?_⟩;rw [hl'];have hul := hlen hev2 hr;rw [hl'] at hul;refine src_of q2 hul (.inr ⟨b', 0, rfl, fun i x hx => ?_⟩) (z47 _ _ hr ho)
      rw [Nat.zero_add, cell_of_heap g2];have hx' : us[i]? = some x := by
       rw [List.getElem?_take] at hx
       split at hx
       ·exact hx
       ·simp at hx
      rw [List.getElem?_append_left (List.getElem?_eq_some_iff.1 hx').1];exact hx'
    ·exact ⟨[], by simp [RL], by simp, by simpa using src_of (w := w) (vs := []) q2 (by simp) (.inl rfl) (by simp)⟩
   ·rename_i cs f hid;simp only [Option.some.injEq, Prod.mk.injEq] at h;obtain ⟨rfl, rfl, rfl⟩ := h;simp only [Bool.and_eq_true, beq_iff_eq, List.all_eq_true] at hp;obtain ⟨⟨rfl, hln⟩, hev⟩ := hp;rcases z2j.1 r with ⟨bl, cap, h1, rfl, h3, h4, h5⟩ | ⟨rfl, a, rfl⟩
    ·obtain ⟨b', el, fr, us, g1, g2, g3, g4⟩ := c.blk id cs f hid;rw [g1] at h1;simp only [Option.some.injEq] at h1;subst h1;have hr := (z7s _ _).1 (zad _ _ len (z62 _ _ off g3));refine ⟨_, hr, hev, ?_⟩;have hul := hlen hev hr;rw [hln] at hul ⊢;refine src_of q2 hul (.inr ⟨b', off, rfl, fun i x hx => ?_⟩) (z47 _ _ hr ho)
     rw [cell_of_heap g2];rw [List.getElem?_take] at hx
     split at hx
     ·rwa [List.getElem?_drop] at hx
     ·simp at hx
    ·have : flL (z6x (z56 cs off) 0) = [] := List.eq_nil_of_length_eq_zero hln;rw [this];exact ⟨[], by simp [RL], by simp, by simpa using src_of (w := w) (vs := []) q2 (by simp) (.inl rfl) (by simp)⟩
   ·simp at h
  ·simp at h
 ·simp at h
theorem zb7 {z : AV} (h : zpt z = true) {xs : List Value} (hr : R ρ I w z xs) : xs = [.int .u8 0] := by
 unfold zpt at h
 split at h
 ·simp only [beq_iff_eq] at h;subst h;exact hr
 ·simp at h
theorem ze6 {te : TI} {z : AV} (h : z6z te z = true) : known z = true ∧ szA z = te.size ∧ te.bytes ≠ 0 ∧ te.size ≠ 0 := by
 simp only [z6z, Bool.and_eq_true, beq_iff_eq, bne_iff_ne, ne_eq] at h;exact ⟨h.1.1, h.1.2, h.2.1, h.2.2⟩
theorem z84 {e : Nat} {te : TI} (hte : G.ty e = some te) {z : AV} (hz : te.zero = some z) (h : z6z te z = true) :
  ∃ j zv, P.info? e = some j ∧ j.size = te.size ∧ j.bytes = te.bytes ∧ 0 < j.bytes ∧ 0 < j.size ∧ j.zero = some zv ∧ zv.cells.size = j.size ∧ (∀ (ρ : Rho) (I : Imm) (w : World), rel ρ I w z zv) ∧ (∀ (ρ : Rho) (I : Imm) (w : World), R ρ I w z zv.cells.toList) := by
 obtain ⟨k1, k2, k3, k4⟩ := ze6 h;obtain ⟨j, d, h1, h2, h3, hb, h5, h6, _⟩ := z1a hte;obtain ⟨zv, hzv, hck⟩ := h6 z hz;have hr : ∀ (ρ : Rho) (I : Imm) (w : World), R ρ I w z zv.cells.toList := fun ρ I w => z5l (z9j hck ρ I w) k1
 refine ⟨j, zv, h1, h3.symm, hb.symm, by omega, by omega, hzv, ?_, fun ρ I w => z9j hck ρ I w, hr⟩
 have := z3o z _ (hr (fun _ => none) (fun _ _ => False) ⟨default, default, default, default, default⟩)
 rw [Array.length_toList, k2, h3] at this;exact this
def zmy (P : Program) (g : Nat → Option (List AV)) (ρ : Rho) (I : Imm) (H : Heap) (w : World) (t tx ty : Nat) (vs vx : Value) (v : AV) (u : List (Nat × Ent)) : Prop :=
 ∃ v' w' ρ', (Builtin.append_ #[t, tx] ty #[vs, vx]).run P w = .ok v' w' ∧ Good ρ I H w ρ' I (zm H u) w' ∧ Conc g ρ' I (zm H u) w' ∧ Mono ρ I w ρ' I w' ∧ rel ρ' I w' v v'
theorem Mono.z1lu {ρ : Rho} {I : Imm} {w : World} : Mono ρ I w ρ I w := ⟨fun _ _ h => h, fun _ _ h => ⟨h, rfl⟩, fun _ h => ⟨h, rfl⟩⟩
theorem zco {g : Nat → Option (List AV)} (c : Conc g ρ I H w) {nid : Nat} (hn : H[nid]? = some .res) {t tx ty e : Nat} {j : TypeInfo} {zv : Value} (ht : P.underlying t = some (.slice e)) (hj : P.info? e = some j) (hz : j.zero = some zv) (hzs : zv.cells.size = j.size)
  (hb0 : 0 < j.bytes) {len n : Nat} {vs news : List Value} {v x : Value} {full : Bool} (hv : vecR I w full len vs v) (hf : full = true) (hvl : vs.length = len * j.size) (hs : Src P j.size tx x n news w) (hb : (len + n) * j.bytes ≤ 140737488355328)
  {ent : Ent} (he : ent.grows = true) (hev : ent.even) (hr : RL ρ I w ent.cells (vs ++ news)) (hne : n ≠ 0 ∨ len = 0) : zmy P g ρ I H w t tx ty v x (.sl nid 0 j.size (len + n)) [(nid, ent)] := by
 obtain ⟨a, cap, rfl, h2, h3, h4⟩ := hv;have hcap := h3 hf;subst hcap
 by_cases h0 : n = 0
 ·subst h0;have hl : cap = 0 := by omega
  subst hl;have hnews : news = [] := List.eq_nil_of_length_eq_zero (by rw [hs.newsLen, Nat.zero_mul])
  have hvs : vs = [] := List.eq_nil_of_length_eq_zero (by rw [hvl, Nat.zero_mul])
  subst hnews;subst hvs;have hrun := z6u (ty := ty) ht hj (base := a) (Nat.le_refl 0) hs;have hsz : szL ent.cells = 0 := by have := z3g _ _ hr; simpa using this.symm
  obtain ⟨f1, f2, f3⟩ := zdd (w' := w) c hn ent none (fun b hb => by simp at hb) (Nat.le_refl _) (fun _ _ => rfl) (z7u he) (fun cs' f h => by rw [h] at he; simp [Ent.grows] at he) (fun _ => ⟨hev, .inl ⟨rfl, hsz⟩⟩) rfl rfl rfl
  exact ⟨_, _, _, hrun, f1, f2, f3, z2j.2 (.inr ⟨rfl, a, rfl⟩)⟩
 ·have hold := zoq (P := P) (w := w) (a := a) (cap := cap) hvl (h4.imp id fun ⟨b, off, k1, _, k3⟩ => ⟨b, off, k1, fun i x hx => (k3 i x hx).1⟩)
  obtain ⟨v', w', k1, k2, k3, k4, k5⟩ := znc (ty := ty) c hn ht hj hz hzs hold hvl hs (by omega) hb hb0 he hev hr
  exact ⟨v', w', _, k1, k2, k3, k4, k5⟩
theorem zwh {g : Nat → Option (List AV)} (c : Conc g ρ I H w) {t tx ty e : Nat} {j : TypeInfo} (ht : P.underlying t = some (.slice e)) (hj : P.info? e = some j) {len : Nat} {vs : List Value} {v x : Value} {full : Bool} (hv : vecR I w full len vs v) (hs : Src P j.size tx x 0 [] w)
  {a : AV} (r : rel ρ I w a v) : zmy P g ρ I H w t tx ty v x a [] := by
 obtain ⟨b, cap, rfl, h2, h3, h4⟩ := hv;exact ⟨_, w, ρ, z6u (ty := ty) ht hj h2 hs, Good.refl _ _ _ _, c, Mono.z1lu, r⟩
theorem znr {l l' : List UInt8} : RL ρ I w [.b8 (l ++ l').length (l ++ l')] (v8 l ++ v8 l') := by rw [zbi]; exact zcm
theorem znx (c : Conc G.g ρ I H w) {nid : Nat} (hn : H[nid]? = some .res) {t tx ty e : Nat} {te : TI} (ht : P.underlying t = some (.slice e)) (hte : G.ty e = some te) {z : AV} (hz : te.zero = some z) (hok : z6z te z = true) (h1 : te.size = 1) {s : AV} {vs vx : Value} (r : rel ρ I w s vs)
  {new : List UInt8} (hs : Src P 1 tx vx new.length (v8 new) w) {E : Eff} {v : AV} {u : List (Nat × Ent)} (h : zm1 te H nid s new = some E) (hh : E.has v u) : zmy P G.g ρ I H w t tx ty vs vx v u := by
 obtain ⟨j, zv, hj, hjs, hjb, hb0, hs0, hjz, hzs, _, _⟩ := z84 hte hz hok;have hj1 : j.size = 1 := by rw [hjs, h1]
 have hs' : Src P j.size tx vx new.length (v8 new) w := by rw [hj1]; exact hs
 unfold zm1 at h
 split at h
 ·rename_i full l;simp only [Option.some.injEq] at h;subst h;have hv := z22.1 r;cases hl : l.isEmpty with
  | true =>
   simp only [Eff.has, hl] at hh;obtain ⟨hf, hle, _, rfl, rfl⟩ := hh;have hl0 : l = [] := by simpa using hl
   subst hl0;have hle := zh.1 hle;have := zco (ty := ty) (ent := .grow8 new []) c hn ht hj hjz hzs hb0 hv hf (by simp [v8]) hs' (by rw [hjb]; simpa using hle) rfl trivial (show RL ρ I w [.b8 new.length new] (v8 new) from zcm) (.inr rfl)
   rw [hj1] at this;simpa using this
  | false =>
   cases hnw : new.isEmpty with
   | true =>
    simp only [Eff.has, hl, hnw] at hh;obtain ⟨_, rfl, rfl⟩ := hh;have hn0 : new = [] := by simpa using hnw
    subst hn0;exact zwh c ht hj hv hs' r
   | false =>
    simp only [Eff.has, hl, hnw] at hh;obtain ⟨hf, hle, _, rfl, rfl⟩ := hh;have hle := zh.1 hle;have hne : new.length ≠ 0 := by
     intro h0;rw [List.eq_nil_of_length_eq_zero h0] at hnw;simp at hnw
    have := zco (ty := ty) (ent := .grow8 (l ++ new) []) c hn ht hj hjz hzs hb0 hv hf (by simp [z1k, hj1]) hs' (by rw [hjb]; exact hle) rfl trivial znr (.inl hne)
    rw [hj1] at this;exact this
 ·rename_i id off k len
  split at h
  ·rename_i l f hid;simp only [Option.some.injEq] at h;subst h;obtain ⟨hc, hlen, hle, _, rfl, rfl⟩ := hh;simp only [Bool.and_eq_true, beq_iff_eq, List.isEmpty_iff] at hc hlen;obtain ⟨⟨rfl, rfl⟩, rfl⟩ := hc;subst hlen;have hle := zh.1 hle;have := zgz (ty := ty) (e0 := .grow8 l []) (ent := .grow8 (l ++ new) []) c hn hid rfl ht hj hjz hzs hb0 (by rw [hj1]; exact z2j.1 r) (by simp [Ent.cells, szL, szA, hj1]) hs' (by rw [hjb]; exact hle) rfl trivial rfl ?_ (fun o ho => by obtain ⟨_, h, _⟩ := ho; simp [Ent.frz] at h)
   ·rw [hj1] at this;obtain ⟨v', w', ρ', k1, k2, k3, k4, k5, _⟩ := this;exact ⟨v', w', ρ', k1, k2, k3, k4, k5⟩
   ·intro cs hcs;rcases hcs with hcs | ⟨h0, rfl⟩
    ·obtain ⟨ys, zs, rfl, ⟨rfl, _⟩, h6⟩ := z12.1 hcs;cases h6;rw [List.append_nil];exact znr
    ·rw [List.eq_nil_of_length_eq_zero h0];exact (show RL ρ I w [.b8 new.length new] (v8 new) from zcm)
  ·simp at h
 ·simp at h
theorem z106 (c : Conc G.g ρ I H w) {nid : Nat} (hn : H[nid]? = some .res) {t tx ty e : Nat} {te : TI} (ht : P.underlying t = some (.slice e)) (hte : G.ty e = some te) {z : AV} (hz : te.zero = some z) (hok : z6z te z = true) {s : AV} {vs vx : Value} (r : rel ρ I w s vs)
  {new : List AV} {news : List Value} (hnr : RL ρ I w new news) (hnk : ∀ a ∈ new, szA a = te.size) (hs : Src P te.size tx vx new.length news w) {E : Eff} {v : AV} {u : List (Nat × Ent)} (h : zp7 te H nid s new = some E) (hh : E.has v u) : zmy P G.g ρ I H w t tx ty vs vx v u := by
 obtain ⟨j, zv, hj, hjs, hjb, hb0, hs0, hjz, hzs, _, _⟩ := z84 hte hz hok;have hs' : Src P j.size tx vx new.length news w := by rw [hjs]; exact hs
 have hlen : ∀ {rows : List AV} {vs : List Value}, (∀ a ∈ rows, szA a = te.size) → RL ρ I w rows vs → vs.length = rows.length * te.size := by
  intro rows
  induction rows with
  | nil => intro vs _ h; cases h; simp
  | cons a as ih =>
   intro vs hk h;obtain ⟨ys, zs, rfl, h1, h2⟩ := z12.1 h;rw [List.length_append, z3o a ys h1, hk a (by simp), ih (fun b hb => hk b (by simp [hb])) h2, List.length_cons, Nat.add_mul, Nat.one_mul, Nat.add_comm]
 unfold zp7 at h
 split at h
 ·rename_i full k l;simp only [Option.some.injEq] at h;subst h;obtain ⟨hsz, ws, hr, hv⟩ := z2h.1 r;cases hl : l.isEmpty with
  | true =>
   simp only [Eff.has, hl] at hh;obtain ⟨hk, hf, hle, _, rfl, rfl⟩ := hh;have hl0 : l = [] := by simpa using hl
   subst hl0;have hle := zh.1 hle;cases hr;have := zco (ty := ty) (ent := .grow te.size new []) c hn ht hj hjz hzs hb0 hv hf (by simp) hs' (by rw [hjb]; simpa using hle) rfl hnk (by simpa [Ent.cells] using hnr) (.inr rfl)
   rw [hjs] at this;simpa using this
  | false =>
   cases hnw : new.isEmpty with
   | true =>
    simp only [Eff.has, hl, hnw] at hh;obtain ⟨_, _, rfl, rfl⟩ := hh;have hn0 : new = [] := by simpa using hnw
    subst hn0;cases hnr;exact zwh c ht hj hv hs' r
   | false =>
    simp only [Eff.has, hl, hnw] at hh;obtain ⟨hk, hf, hle, _, rfl, rfl⟩ := hh;simp only [beq_iff_eq] at hk;subst hk;have hle := zh.1 hle;have hne : new.length ≠ 0 := by
     intro h0;rw [List.eq_nil_of_length_eq_zero h0] at hnw;simp at hnw
    have := zco (ty := ty) (ent := .grow te.size (l ++ new) []) c hn ht hj hjz hzs hb0 hv hf (by rw [hlen hsz hr, hjs]) hs' (by rw [hjb]; exact hle) rfl (fun a ha => (List.mem_append.1 ha).elim (hsz a) (hnk a)) (z7j hr hnr) (.inl hne)
    rw [hjs] at this;exact this
 ·rename_i id off k len
  split at h
  ·rename_i k' l f hid;simp only [Option.some.injEq] at h;subst h;obtain ⟨hc, hlen', hle, _, rfl, rfl⟩ := hh;simp only [Bool.and_eq_true, beq_iff_eq, List.isEmpty_iff] at hc hlen';obtain ⟨⟨rfl, rfl, rfl⟩, rfl⟩ := hc;subst hlen';have hle := zh.1 hle;have hev : ∀ a ∈ l, szA a = te.size := (c.grow id _ hid rfl).1;have hszl : szL l = l.length * te.size := by
    have : ∀ l : List AV, (∀ a ∈ l, szA a = te.size) → szL l = l.length * te.size := by
     intro l
     induction l with
     | nil => intro _; simp [szL]
     | cons a as ih => intro h; rw [szL, h a (by simp), ih (fun b hb => h b (by simp [hb])), List.length_cons, Nat.add_mul, Nat.one_mul, Nat.add_comm]
    exact this l hev
   have := zgz (ty := ty) (e0 := .grow te.size l []) (ent := .grow te.size (l ++ new) []) c hn hid rfl ht hj hjz hzs hb0 (by rw [hjs]; exact z2j.1 r) (by rw [hjs]; exact hszl) hs' (by rw [hjb]; exact hle) rfl (fun a ha => (List.mem_append.1 ha).elim (hev a) (hnk a)) rfl ?_ (fun o ho => by obtain ⟨_, h, _⟩ := ho; simp [Ent.frz] at h)
   ·rw [hjs] at this;obtain ⟨v', w', ρ', k1, k2, k3, k4, k5, _⟩ := this;exact ⟨v', w', ρ', k1, k2, k3, k4, k5⟩
   ·intro cs hcs;rcases hcs with hcs | ⟨h0, rfl⟩
    ·exact z7j hcs hnr
    ·rw [show (Ent.grow te.size (l ++ new) []).cells = l ++ new from rfl, List.eq_nil_of_length_eq_zero h0]
     simpa using hnr
  ·simp at h
 ·rename_i full l;simp only [Option.some.injEq] at h;subst h;obtain ⟨hl, hf, hle, _, rfl, rfl⟩ := hh;have hl0 : l = [] := by simpa using hl
  subst hl0;have hle := zh.1 hle;have hv : vecR I w full ([] : List UInt8).length [] vs := z22.1 r;have := zco (ty := ty) (ent := .grow te.size new []) c hn ht hj hjz hzs hb0 hv hf (by simp) hs' (by rw [hjb]; simpa using hle) rfl hnk (by simpa [Ent.cells] using hnr) (.inr rfl)
  rw [hjs] at this;simpa using this
 ·simp at h
end
section
variable {P : Program} {G : Env P} {ρ : Rho} {I : Imm} {H : Heap} {w : World}
theorem z7f {H : Heap} {n : Nat} (h : z34 H n = true) : H[n]? = some .res := ze2.1 h
theorem znn {t tx ts ty e : Nat} {k : IntKind} {j : TypeInfo} {zv : Value} (ht : P.underlying t = some (.slice e)) (hx : P.underlying tx = some (.int k)) (hs : P.underlying ts = some .string) (hj : P.info? e = some j) (hz : j.zero = some zv) (hzc : zv.cells = #[.int .u8 0])
  (hjs : j.size = 1) (hb0 : 0 < j.bytes) {n len cap : Nat} {base : Option Addr} (hle : (len + n) * j.bytes ≤ 140737488355328) :
  (Builtin.append_ #[t, tx] ty #[.slice base len cap, .int .i64 n]).run P w = (Builtin.append_ #[t, ts] ty #[.slice base len cap, .string ⟨(List.replicate n (0 : UInt8)).toArray⟩]).run P w := by
 have h63 : len + n ≤ (len + n) * j.bytes := Nat.le_mul_of_pos_right _ hb0;have hw : IntKind.i64.wrap (n : Int) = n := zov (by omega) (by omega)
 have hsz : (⟨(List.replicate n (0 : UInt8)).toArray⟩ : ByteArray).size = n := by simp [ByteArray.size]
 have hcells : ∀ (w' : World), (Builtin.firstCells j.size n (.string ⟨(List.replicate n (0 : UInt8)).toArray⟩)).run P w' = .ok (Builtin.zeroCells zv.cells n) w' := by
  intro w';have := firstCells_string (P := P) ⟨(List.replicate n (0 : UInt8)).toArray⟩ w';rw [hsz] at this;rw [hjs, this]
  congr 1
  rw [hzc];apply Array.toList_inj.1;have h2 : (Builtin.zeroCells #[.int .u8 0] n).toList = (List.replicate n [Value.int .u8 0]).flatten := zbf #[.int .u8 0] (by decide) n
  rw [h2];simp [byteCells]
 have hI : IntKind.i64.wrap (n : Int) = n := hw;generalize (⟨(List.replicate n (0 : UInt8)).toArray⟩ : ByteArray) = s0 at *;have hlo : ∀ w' : World, (Builtin.lenOf (.string s0)).run P w' = .ok n w' := fun w' => by simp [Builtin.lenOf, hsz]
 have hb1 : ¬ (281474976710656 < (n : Int) * (j.bytes : Int)) := by
  have h0 : n * j.bytes ≤ (len + n) * j.bytes := Nat.mul_le_mul_right _ (by omega)
  have : ((n * j.bytes : Nat) : Int) ≤ 140737488355328 := by omega
  rw [Int.natCast_mul] at this;omega
 have hneg : ¬ ((n : Int) < 0) := by omega
 have hw0 : IntKind.i64.wrap 0 = 0 := by decide
 have hz0 : Builtin.zeroCells zv.cells 0 = #[] := by simp [Builtin.zeroCells]
 by_cases hc : len + n ≤ cap
 ·by_cases h0 : n = 0
  ·subst h0;have hc' : len ≤ cap := by omega
   cases base <;> simp [hc', Builtin.append_, run_underlying ht, run_underlying hx, run_underlying hs, run_sizeOf hj, asInt, asIntOf, hw0, run_typeInfo hj, hlo, hcells, hz0] <;> (try (split <;> rfl))
  ·have hnz : ¬ (n * j.size = 0) := by rw [hjs]; omega
   cases base <;> simp [Builtin.append_, run_underlying ht, run_underlying hx, run_underlying hs, run_sizeOf hj, asInt, asIntOf, hI, run_typeInfo hj, hb1, hneg, hlo, hc, hnz, hcells, zeroValue, hz, h0]
 ·have hfit : Builtin.nextslicecap (len + n) cap * j.bytes ≤ 281474976710656 := growslice_fits (by omega) hle
  have h1 : ¬ (281474976710656 < Builtin.nextslicecap (len + n) cap * j.bytes) := by omega
  have h2 : ¬ (9223372036854775807 < (len : Int) + (n : Int)) := by omega
  by_cases h0 : n = 0
  ·subst h0;have hc' : ¬ len ≤ cap := by omega
   rw [Nat.add_zero] at h1;have h2' : ¬ (9223372036854775807 < (len : Int)) := by omega
   cases base <;> simp [hc', h1, h2', Builtin.append_, run_underlying ht, run_underlying hx, run_underlying hs, run_sizeOf hj, asInt, asIntOf, hw0, run_typeInfo hj, hlo, hcells, hz0] <;> (try (split <;> rfl))
  ·have hnz : ¬ (n * j.size = 0) := by rw [hjs]; omega
   cases base <;> simp [Builtin.append_, run_underlying ht, run_underlying hx, run_underlying hs, run_sizeOf hj, asInt, asIntOf, hI, run_typeInfo hj, hb1, hneg, hlo, hc, hnz, hcells, zeroValue, hz, h0, h1, h2]
theorem zjg : ∀ {n ts : Nat}, zh8 G n = some ts → ∃ ti, G.ty ts = some ti ∧ ti.kind = .string
 | 0, ts, h => by simp [zh8] at h
 | n + 1, ts, h => by
  unfold zh8 at h
  split at h
  ·rename_i ti hti
   split at h
   ·rename_i hk;simp only [Option.some.injEq] at h;subst h;exact ⟨ti, hti, hk⟩
   ·exact zjg h
  ·exact zjg h
theorem z13s {tix : TI} {s x : AV} {vs : Value} (rs : rel ρ I w s vs) {n : Int} {len : Nat} (h : srcZ G tix s x = some (n, len)) :
  (∃ k, tix.kind = .int k) ∧ x = .int .i64 n ∧ (∃ ts ti, G.ty ts = some ti ∧ ti.kind = .string) ∧ ∃ base cap, vs = .slice base len cap := by
 unfold srcZ at h
 split at h
 ·rename_i k n' ts hk hts;obtain ⟨ti, k1, k2⟩ := zjg hts
  split at h
  ·rename_i full l;obtain ⟨rfl, rfl⟩ := spE h;obtain ⟨a, cap, rfl, _⟩ := z22.1 rs;exact ⟨⟨k, hk⟩, rfl, ⟨ts, ti, k1, k2⟩, a, cap, rfl⟩
  ·rename_i id off kk len';obtain ⟨rfl, rfl⟩ := spE h;rcases z2j.1 rs with ⟨b, cap, _, rfl, _⟩ | ⟨rfl, a, rfl⟩
   ·exact ⟨⟨k, hk⟩, rfl, ⟨ts, ti, k1, k2⟩, _, cap, rfl⟩
   ·exact ⟨⟨k, hk⟩, rfl, ⟨ts, ti, k1, k2⟩, a, 0, rfl⟩
  ·simp at h
 ·simp at h
theorem zrx (c : Conc G.g ρ I H w) {t tx ty nid : Nat} {s x : AV} {vs vx : Value} (rs : rel ρ I w s vs) (rx : rel ρ I w x vx) {E : Eff} {v : AV} {u : List (Nat × Ent)} (h : zci G t tx H nid s x = some E) (hh : E.has v u) : zmy P G.g ρ I H w t tx ty vs vx v u := by
 unfold zci at h
 split at h
 ·rename_i ti tix hti htix;obtain ⟨j, d, _, q2, _, _, q5, _⟩ := z1a hti
  split at h
  ·rename_i e hk;rw [hk] at q5;obtain rfl := TK.of_slice q5
   split at h
   ·rename_i te hte
    split at h
    ·rename_i z hz
     split at h
     ·split at h
      ·rename_i p new hsrc
       split at h
       ·rename_i E' hE;simp only [Option.some.injEq] at h;subst h;obtain ⟨h1, h2, h3⟩ := hh;simp only [Bool.and_eq_true, beq_iff_eq] at h1;exact znx c (z7f h1.1) q2 hte hz h1.2.1 h1.2.2 rs (z11l c htix rx hsrc h2) hE h3
       ·simp at h
      ·split at h
       ·rename_i n len hz8
        split at h
        ·rename_i E' hE;simp only [Option.some.injEq] at h;subst h;obtain ⟨h1, h2, h3, h4⟩ := hh;simp only [Bool.and_eq_true, beq_iff_eq] at h1 h2;have h3 := zh.1 h3;obtain ⟨⟨k, hkx⟩, rfl, ⟨ts, tis, g1, g2⟩, base, cap, rfl⟩ := z13s rs hz8;obtain ⟨js, ds, _, s2, _, _, s5, _⟩ := z1a g1;rw [g2] at s5;obtain rfl := TK.of_string s5;obtain ⟨jx, dx, _, x2, _, _, x5, _⟩ := z1a htix;rw [hkx] at x5;obtain rfl := TK.of_int x5;obtain ⟨je, zv, hj, hjs, hjb, hb0, hs0, hjz, hzs, _, hzr⟩ := z84 hte hz h1.2.1;have hzc : zv.cells = #[.int .u8 0] := by
          apply Array.toList_inj.1;exact zb7 h2.1 (hzr ρ I w)
         obtain ⟨m, rfl⟩ : ∃ m : Nat, n = m := ⟨n.toNat, by have := z3e.1 h2.2; omega⟩
         rw [Int.toNat_natCast] at h3 hE;have hsrc := Src.ofString (P := P) w s2 ⟨(List.replicate m (0 : UInt8)).toArray⟩;have hsz : (⟨(List.replicate m (0 : UInt8)).toArray⟩ : ByteArray).size = (List.replicate m (0 : UInt8)).length := by simp [ByteArray.size]
         have hbc : byteCells ⟨(List.replicate m (0 : UInt8)).toArray⟩ = v8 (List.replicate m 0) := by simp [byteCells, v8]
         rw [hsz, hbc] at hsrc;obtain ⟨v', w', ρ', k1, k2⟩ := znx (ty := ty) c (z7f h1.1) q2 hte hz h1.2.1 h1.2.2 rs hsrc hE h4;refine ⟨v', w', ρ', ?_, k2⟩;obtain rfl := zj.1 rx;rw [znn q2 x2 s2 hj hjz hzc (by rw [hjs]; exact h1.2.2) hb0 (by rw [hjb]; exact h3)]
         exact k1
        ·simp at h
       ·simp at h
     ·split at h
      ·rename_i k p new hsrc
       split at h
       ·rename_i E' hE;simp only [Option.some.injEq] at h;subst h;obtain ⟨h1, h2, h3, h4⟩ := hh;simp only [Bool.and_eq_true, beq_iff_eq] at h1;obtain ⟨news, k1, k2, k3⟩ := z11f c htix rx hsrc h2 h3;rw [h1.2.2] at k2 k3;exact z106 c (z7f h1.1) q2 hte hz h1.2.1 rs k1 k2 k3 hE h4
       ·simp at h
      ·simp at h
    ·simp at h
   ·simp at h
  ·simp at h
 ·simp at h
theorem zx0 (c : Conc G.g ρ I H w) {t nid : Nat} {l k : AV} {vl vk : Value} (rl : rel ρ I w l vl) (rk : rel ρ I w k vk) {E : Eff} {v : AV} {u : List (Nat × Ent)} (h : zsx G t H nid l k = some E) (hh : E.has v u) :
  ∃ v' w' ρ', (Instr.makeSlice t vl vk).run P w = .ok v' w' ∧ Good ρ I H w ρ' I (zm H u) w' ∧ Conc G.g ρ' I (zm H u) w' ∧ Mono ρ I w ρ' I w' ∧ rel ρ' I w' v v' := by
 unfold zsx at h
 split at h
 ·rename_i ti k1 n k2 m hti hl hm;obtain ⟨j, d, _, q2, _, _, q5, _⟩ := z1a hti
  split at h
  ·rename_i e hk;rw [hk] at q5;obtain rfl := TK.of_slice q5
   split at h
   ·rename_i te hte
    split at h
    ·rename_i z hz;simp only [Option.some.injEq] at h;subst h;obtain ⟨h1, h2, h3, h4, hh⟩ := hh;simp only [Bool.and_eq_true, beq_iff_eq] at h1 h3;subst h3;have h2 := z3e.1 h2;have h4 := zh.1 h4;obtain ⟨j, zv, hj, hjs, hjb, hb0, hs0, hjz, hzs, hzr, hzR⟩ := z84 hte hz h1.2;obtain rfl := z6q hl rl;obtain rfl := z6q hm rk;have hn : (n.toNat : Int) = n := Int.toNat_of_nonneg h2;have hle : n.toNat ≤ n.toNat * te.bytes := Nat.le_mul_of_pos_right _ (by omega)
     have hbytes : (j.bytes : Int) * n ≤ 281474976710656 := by
      rw [← hn, hjb, ← Int.natCast_mul, Nat.mul_comm]; omega
     have hrun := run_make (P := P) w t e j zv q2 hj hjz k1 k2 n n h2 (Int.le_refl _) hbytes (by omega)
     have hml : (madeCells zv.cells (n.toNat * j.size)) = ((List.replicate n.toNat zv.cells.toList).flatten ++ []).toArray := by
      apply Array.toList_inj.1;rw [List.append_nil, ← hzs];exact zbf zv.cells (by omega) n.toNat
     rw [hml] at hrun;have hlen : ((List.replicate n.toNat zv.cells.toList).flatten ++ []).length = n.toNat * j.size := by simp [hzs]
     have hnew := z69 w (.cells ((List.replicate n.toNat zv.cells.toList).flatten ++ []).toArray e);have fin : ∀ ent : Ent, ent.grows = true → ent.even → RL ρ I w ent.cells (List.replicate n.toNat zv.cells.toList).flatten → ∃ v' w' ρ', (Instr.makeSlice t (.int k1 n) (.int k2 n)).run P w = .ok v' w' ∧ Good ρ I H w ρ' I (zm H [(nid, ent)]) w' ∧ Conc G.g ρ' I (zm H [(nid, ent)]) w' ∧ Mono ρ I w ρ' I w' ∧ rel ρ' I w' (.sl nid 0 j.size n.toNat) v' := by
      intro ent he hev hr;obtain ⟨g1, g2, g3⟩ := zh4 (w' := w.alloc (.cells ((List.replicate n.toNat zv.cells.toList).flatten ++ []).toArray e)) c (z7f h1.1) he hev (by simp) (fun b hb => alloc_old w _ hb) hnew hr ⟨Nat.le_refl _, fun o _ => by simp⟩ rfl rfl rfl
      exact ⟨_, _, _, hrun, g1, g2, g3, zo1 (by simp) hnew (Nat.le_refl _) (by rw [hlen]; exact Nat.le_refl _)⟩
     split at hh
     ·rename_i hku;obtain ⟨hs1, _, rfl, rfl⟩ := hh;simp only [Bool.and_eq_true, beq_iff_eq] at hs1;obtain ⟨hs1, hs2⟩ := hs1;have hz8 := zb7 hs2 (hzR ρ I w);have := fin (.grow8 (List.replicate n.toNat 0) []) rfl trivial (by rw [hz8, zi9]; exact zcm)
      rw [hjs, hs1] at this;exact this
     ·obtain ⟨_, rfl, rfl⟩ := hh;have := fin (.grow te.size (List.replicate n.toNat z) []) rfl (fun a ha => by rw [(List.mem_replicate.1 ha).2]; exact (ze6 h1.2).2.1) (z9b (hzR ρ I w) n.toNat)
      rw [hjs] at this;exact this
    ·simp at h
   ·simp at h
  ·simp at h
 ·simp at h
end
section
variable {P : Program} {G : Env P} {ρ : Rho} {I : Imm} {H : Heap} {w : World}
theorem zmq {t e : Nat} {parts : Array (Nat × Value)} {te : TI} (ht : P.underlying t = some (.slice e)) (hte : G.ty e = some te) (hp : parts.toList = []) :
  (Instr.buildSlice t 0 parts).run P w = .ok (.slice (some ⟨w.heap.size, 0, none⟩) 0 0) (w.alloc (.cells #[] e)) := by
 have : parts = #[] := Array.toList_eq_nil_iff.1 hp;subst this;have h0 : Array.range 0 = #[] := rfl;simp [Instr.buildSlice, run_underlying ht, z5n hte, Instr.fill, newRow, h0]
theorem zbn (c : Conc G.g ρ I H w) {t len nid : Nat} {parts : List (Nat × AV)} {vparts : Array (Nat × Value)} (hi : parts.map (·.1) = vparts.toList.map (·.1)) (hr : RV ρ I w (parts.map (·.2)) (vparts.toList.map (·.2)))
  {E : Eff} {v : AV} {u : List (Nat × Ent)} (h : z6o G t len H nid parts = some E) (hh : E.has v u) :
  ∃ v' w' ρ', (Instr.buildSlice t len vparts).run P w = .ok v' w' ∧ Good ρ I H w ρ' I (zm H u) w' ∧ Conc G.g ρ' I (zm H u) w' ∧ Mono ρ I w ρ' I w' ∧ rel ρ' I w' v v' := by
 have hvp0 : parts = [] → vparts.toList = [] := by
  rintro rfl;simpa using hi.symm
 unfold z6o at h
 split at h
 ·rename_i ti hti;obtain ⟨jt, d, _, q2, _, _, q5, _⟩ := z1a hti
  split at h
  ·rename_i e hk;rw [hk] at q5;obtain rfl := TK.of_slice q5
   split at h
   ·rename_i te hte
    split at h
    ·rename_i z hz;have zero : ∀ a : AV, len = 0 → parts.isEmpty = true → (∀ x, rel ρ I (w.alloc (.cells #[] e)) a (.slice x 0 0)) → ∃ v' w' ρ', (Instr.buildSlice t len vparts).run P w = .ok v' w' ∧ Good ρ I H w ρ' I (zm H []) w' ∧ Conc G.g ρ' I (zm H []) w' ∧ Mono ρ I w ρ' I w' ∧ rel ρ' I w' a v' := by
      intro a hl hpe ha;have hrun := zmq (w := w) q2 hte (hvp0 (by simpa using hpe))
      obtain ⟨g1, g2, g3⟩ := zqc (w' := w.alloc (.cells #[] e)) c (by simp) (fun b hb => alloc_old w _ hb) rfl rfl rfl
      exact ⟨_, _, _, by rw [hl]; exact hrun, g1, g2, g3, ha _⟩
     have full : ∀ (cells l : List AV) (cc : Bool) (ent : Ent), z6z te z = true → len ≠ 0 → leB (len * te.size) 16777216 = true → z34 H nid = true →
       (∀ zv : Value, R ρ I w z zv.cells.toList → RL ρ I w cells (List.replicate len zv.cells.toList).flatten) → zax (z85 te.size) cells parts = some (cc, l) → cc = true → ent.grows = true → ent.even → (∀ xs, RL ρ I w l xs → RL ρ I w ent.cells xs) → szL l = len * te.size →
       ∃ v' w' ρ', (Instr.buildSlice t len vparts).run P w = .ok v' w' ∧ Good ρ I H w ρ' I (zm H [(nid, ent)]) w' ∧ Conc G.g ρ' I (zm H [(nid, ent)]) w' ∧ Mono ρ I w ρ' I w' ∧ rel ρ' I w' (.sl nid 0 te.size len) v' := by
      intro cells l cc ent hok hl0 hle hres hzero hfill hcc he hev hec hsz;obtain ⟨j, zv, hj, hjs, hjb, hb0, hs0, hjz, hzs, hzr, hzR⟩ := z84 hte hz hok;have hle := zh.1 hle;have hz0 : RL ρ I w cells ((Array.range (len * j.size)).map (zv.cells[·% zv.cells.size]!)).toList := by
       rw [← hzs, zbf zv.cells (by omega) len]
       exact hzero zv (hzR ρ I w)
      obtain ⟨out, o1, o2⟩ := z6n (place' := fun i => some (i * j.size, j.size)) hi hr (fun p _ q hq => by simpa [z85, hjs] using hq) hz0 hfill hcc
      have hrun := run_buildSlice (P := P) w t e len vparts out j zv q2 hj hjz (by rw [hjs]; omega) (by rw [Nat.mul_eq_zero]; omega) o1
      have hout : out = (out.toList ++ []).toArray := by simp
      rw [hout] at hrun;have hnew := z69 w (.cells (out.toList ++ []).toArray e);have hlen : (out.toList ++ []).length = len * te.size := by rw [List.append_nil, z3g _ _ o2, hsz]
      obtain ⟨g1, g2, g3⟩ := zh4 (w' := w.alloc (.cells (out.toList ++ []).toArray e)) c (z7f hres) he hev (by simp) (fun b hb => alloc_old w _ hb) hnew (hec _ o2) ⟨Nat.le_refl _, fun o _ => by simp⟩ rfl rfl rfl
      exact ⟨_, _, _, hrun, g1, g2, g3, zo1 (by simp) hnew (Nat.le_refl _) (by rw [hlen]; exact Nat.le_refl _)⟩
     split at h
     ·cases hl : len == 0 with
      | true =>
       simp only [hl, cond_true, Option.some.injEq] at h;subst h;obtain ⟨hpe, rfl, rfl⟩ := hh;exact zero _ (by simpa using hl) hpe fun x => z22.2 ⟨x, 0, rfl, Nat.le_refl _, fun _ => rfl, .inl rfl⟩
      | false =>
       simp only [hl, cond_false] at h
       split at h
       ·rename_i cc m l hfill;simp only [Option.some.injEq] at h;subst h;obtain ⟨h1, h2, rfl, rfl⟩ := hh;simp only [Bool.and_eq_true, beq_iff_eq] at h1;obtain ⟨⟨hres, hok, hs1, hz8⟩, rfl, hle⟩ := h1;have hne : m ≠ 0 := by simpa using hl
        have hleB : leB (m * te.size) 16777216 = true := by rw [hs1, Nat.mul_one]; exact hle
        obtain ⟨j, zv, hj, hjs, hjb, hb0, hs0, hjz, hzs, hzr, hzR⟩ := z84 hte hz hok;have hlm : l.length = m := by
         have hz0 : RL ρ I w [.b8 m (List.replicate m 0)] ((Array.range (m * j.size)).map (zv.cells[·% zv.cells.size]!)).toList := by
          rw [← hzs, zbf zv.cells (by omega) m, zb7 hz8 (hzR ρ I w), zi9]
          exact ⟨_, [], by simp, ⟨rfl, by simp⟩, rfl⟩
         obtain ⟨out, o1, o2⟩ := z6n (place' := fun i => some (i * j.size, j.size)) hi hr (fun p _ q hq => by simpa [z85, hjs] using hq) hz0 hfill h2
         obtain ⟨ys, zs, _, ⟨_, h6⟩, _⟩ := z12.1 o2;exact h6
        have := full [.b8 m (List.replicate m 0)] [.b8 m l] cc (.grow8 l []) hok hne hleB hres (fun zv hzv => by
         rw [zb7 hz8 hzv, zi9];exact ⟨_, [], by simp, ⟨rfl, by simp⟩, rfl⟩) hfill h2 rfl trivial (fun xs h => by simpa [Ent.cells, hlm] using h) (by simp [szL, szA, hs1])
        rw [hs1] at this;exact this
       ·rename_i cc x hfill;simp only [Option.some.injEq] at h;subst h;obtain ⟨h1, h2, rfl, rfl⟩ := hh;simp only [Bool.and_eq_true, beq_iff_eq] at h1;obtain ⟨⟨hres, hok, hs1, hz8⟩, rfl⟩ := h1;have := full [.b8 1 (List.replicate 1 0)] [.u8 x] cc (.grow8 [x] []) hok (by omega) (by rw [hs1]; rfl) hres (fun zv hzv => by
         rw [zb7 hz8 hzv, zi9];exact ⟨_, [], by simp, ⟨rfl, by simp⟩, rfl⟩) hfill h2 rfl trivial (fun xs h => by
          obtain ⟨ys, zs, rfl, h3, h4⟩ := z12.1 h;cases h3;cases h4;exact ⟨_, [], rfl, ⟨rfl, rfl⟩, rfl⟩) (by simp [szL, szA, hs1])
        rw [hs1] at this;exact this
       ·simp at h
     ·cases hl : len == 0 with
      | true =>
       simp only [hl, cond_true, Option.some.injEq] at h;subst h;obtain ⟨hpe, rfl, rfl⟩ := hh;exact zero _ (by simpa using hl) hpe fun x => z2h.2 ⟨by simp, [], by simp [RL], x, 0, rfl, Nat.le_refl _, fun _ => rfl, .inl rfl⟩
      | false =>
       simp only [hl, cond_false] at h
       split at h
       ·rename_i cc rows hfill;simp only [Option.some.injEq] at h;subst h;obtain ⟨h1, h2, h3, rfl, rfl⟩ := hh;simp only [Bool.and_eq_true, beq_iff_eq] at h1;obtain ⟨⟨hres, hok⟩, rfl, hle⟩ := h1;have hev : ∀ a ∈ rows, szA a = te.size := fun a ha => by simpa using List.all_eq_true.1 h2 a ha
        have hszl : ∀ l : List AV, (∀ a ∈ l, szA a = te.size) → szL l = l.length * te.size := by
         intro l
         induction l with
         | nil => intro _; simp [szL]
         | cons a as ih => intro h; rw [szL, h a (by simp), ih (fun b hb => h b (by simp [hb])), List.length_cons, Nat.add_mul, Nat.one_mul, Nat.add_comm]
        exact full (List.replicate rows.length z) rows cc (.grow te.size rows []) hok (by simpa using hl) hle hres (fun zv hzv => z9b hzv _) hfill h3 rfl hev (fun xs h => h) (hszl rows hev)
       ·simp at h
    ·simp at h
   ·simp at h
  ·simp at h
 ·simp at h
end
section
variable {P : Program} {G : Env P} {ρ : Rho} {I : Imm} {H : Heap} {w : World}
theorem zr1 (c : Conc G.g ρ I H w) {tix : TI} {x : AV} {vx : Value} (r : rel ρ I w x vx) {p : Bool} {l : List UInt8} (h : zhb tix H x = some (p, l)) (hp : p = true) :
  (Builtin.lenOf vx).run P w = .ok l.length w ∧ ∀ m, m ≤ l.length → (Builtin.firstCells 1 m vx).run P w = .ok (v8 (l.take m)).toArray w := by
 unfold zhb at h
 split at h
 ·rename_i s
  split at h
  ·simp only [Option.some.injEq, Prod.mk.injEq] at h;obtain ⟨_, rfl⟩ := h;obtain rfl := zi.1 r;refine ⟨by simp [Builtin.lenOf, ByteArray.size], fun m hm => ?_⟩
   simp only [Builtin.firstCells, extract_mk];simp [v8]
  ·simp at h
 ·split at h
  ·obtain ⟨a, cap, rfl, hc⟩ := z65 c h hp r;refine ⟨by simp [Builtin.lenOf], fun m hm => ?_⟩
   have hlt : (v8 (l.take m)).length = m * 1 := by rw [z1k, List.length_take, Nat.min_eq_left hm, Nat.mul_one]
   rcases hc with rfl | ⟨b, off, rfl, hc⟩
   ·have hm0 : m = 0 := by simpa using hm
    subst hm0;cases a with
    | none => exact run_firstCells_none w 1 0 0 cap
    | some a => exact run_firstCells_some w 1 0 a 0 cap [] (by simp) (fun j u hu => by simp at hu)
   ·refine run_firstCells_some w 1 m ⟨b, off, none⟩ l.length cap _ hlt fun i y hy => ?_
    rw [addr_add];refine hc i y ?_;rw [← za9, List.getElem?_take] at hy
    split at hy
    ·exact hy
    ·simp at hy
  ·simp at h
theorem zr7 {t tx ty e : Nat} {te : TI} (ht : P.underlying t = some (.slice e)) (hte : G.ty e = some te) (h1 : te.size = 1) {b off len cap : Nat} {vx : Value} {n : Nat} {l : List UInt8} (hn : (Builtin.lenOf vx).run P w = .ok n w)
  (hc : (Builtin.firstCells 1 (min n len) vx).run P w = .ok (v8 l).toArray w) (hcell : ∀ j, j < l.length → (w.cell? ⟨b, off + j, none⟩).isSome = true) (hfr : ∀ j, j < l.length → w.frozen? ⟨b, off + j, none⟩ = false) :
  (Builtin.copy_ #[t, tx] ty #[.slice (some ⟨b, off, none⟩) len cap, vx]).run P w = .ok (.int .i64 (min n len : Nat)) (w.setCells b off (v8 l)) := by
 have one : ∀ u ∈ v8 l, u.oneCell' = true := fun u hu => by
  simp only [v8, List.mem_map] at hu;obtain ⟨y, _, rfl⟩ := hu;rfl
 have hst := run_storeCells_cells (P := P) b off (v8 l) 0 w (fun j hj => by rw [z1k] at hj; exact hcell j hj) (fun j hj => by rw [z1k] at hj; exact hfr j hj) one
 rw [Nat.add_zero] at hst;have hmin : Nat.min n len = min n len := rfl;simp [Builtin.copy_, run_underlying ht, hn, z5n hte, h1, hmin, hc, hst, goInt]
theorem z13x {t tx ty e : Nat} {te : TI} (ht : P.underlying t = some (.slice e)) (hte : G.ty e = some te) (h1 : te.size = 1) {a : Option Addr} {vx : Value} {n : Nat} (hn : (Builtin.lenOf vx).run P w = .ok n w)
  (hc : (Builtin.firstCells 1 0 vx).run P w = .ok #[] w) : (Builtin.copy_ #[t, tx] ty #[.slice a 0 0, vx]).run P w = .ok (.int .i64 (0 : Nat)) w := by
 have hmin : Nat.min n 0 = 0 := Nat.min_zero n;cases a with
 | none => simp [Builtin.copy_, run_underlying ht, hn, z5n hte, h1, hmin, hc, goInt]
 | some a => simp [Builtin.copy_, run_underlying ht, hn, z5n hte, h1, hmin, hc, goInt, storeCells]
theorem zxu (c : Conc G.g ρ I H w) {t tx ty : Nat} {d x : AV} {vd vx : Value} (rd : rel ρ I w d vd) (rx : rel ρ I w x vx) {E : Eff} {v : AV} {u : List (Nat × Ent)} (h : zkg G t tx H d x = some E) (hh : E.has v u) :
  ∃ v' w' ρ', (Builtin.copy_ #[t, tx] ty #[vd, vx]).run P w = .ok v' w' ∧ Good ρ I H w ρ' I (zm H u) w' ∧ Conc G.g ρ' I (zm H u) w' ∧ Mono ρ I w ρ' I w' ∧ rel ρ' I w' v v' := by
 unfold zkg at h
 split at h
 ·rename_i ti tix hti htix;obtain ⟨jt, dd, _, q2, _, _, q5, _⟩ := z1a hti
  split at h
  ·rename_i e hk;rw [hk] at q5;obtain rfl := TK.of_slice q5
   split at h
   ·rename_i te hte
    split at h
    ·rename_i p new hsrc
     split at h
     ·rename_i id off k len
      split at h
      ·rename_i l f hid;simp only [Option.some.injEq] at h;subst h;obtain ⟨h1, h2, h3, _, rfl, rfl⟩ := hh;simp only [Bool.and_eq_true, beq_iff_eq, List.isEmpty_iff] at h1;obtain ⟨hs1, rfl, rfl⟩ := h1;have h3 := zh.1 h3;obtain ⟨s1, s2⟩ := zr1 (P := P) c rx hsrc h2;rcases z2j.1 rd with ⟨b, cap, g1, rfl, g2, g3, g4⟩ | ⟨rfl, a, rfl⟩
       ·obtain ⟨_, hgr⟩ := c.grow id _ hid rfl;rcases hgr with ⟨w1, _⟩ | ⟨b', el, fr, us, rest, w1, w2, w3, w4⟩
        ·rw [w1] at g1; simp at g1
        rw [w1] at g1;simp only [Option.some.injEq] at g1;subst g1;obtain ⟨ys, zs, rfl, ⟨rfl, _⟩, hz⟩ := z12.1 w3;cases hz;rw [List.append_nil] at w2 w4;have hmn : min new.length len ≤ new.length := Nat.min_le_left _ _;have hlt : (new.take (min new.length len)).length = min new.length len := by rw [List.length_take]; omega
        have hall : (v8 l ++ rest).length = l.length + rest.length := by simp [z1k]
        have hrun := zr7 (P := P) (ty := ty) (tx := tx) (cap := cap) q2 hte hs1 s1 (s2 _ hmn) (fun j hj => by have hj' := hlt ▸ hj; rw [cell_of_heap w2, List.getElem?_eq_getElem (show off + j < (v8 l ++ rest).length by rw [hall]; omega)]; rfl)
         (fun j hj => by
          have := w4.2 (off + j) (by rw [hlt] at hj; rw [hall]; omega)
          unfold World.frozen?;rw [w2];simpa using this)
        rw [z6k _ off _ w w2 (by rw [z1k, hlt, hall]; omega)] at hrun
        have hnew : z18 (v8 l ++ rest) off (v8 (new.take (min new.length len))) = v8 (l.take off ++ (new.take len ++ l.drop (off + min new.length len))) ++ rest := by
         rw [zd1 (by rw [z1k, z1k, hlt]; omega)]
         congr 1
         unfold z18;rw [z1k, hlt, za9, zah, zbi, zbi];have eB : new.take (min new.length len) = new.take len := by
          rcases Nat.le_total new.length len with hc | hc
          ·rw [Nat.min_eq_left hc, List.take_of_length_le (Nat.le_refl _), List.take_of_length_le hc]
          ·rw [Nat.min_eq_right hc]
         rw [eB]
        have hl' : (l.take off ++ (new.take len ++ l.drop (off + min new.length len))).length = l.length := by
         simp only [List.length_append, List.length_take, List.length_drop];omega
        have hlenV : (z18 (v8 l ++ rest) off (v8 (new.take (min new.length len)))).length = (v8 l ++ rest).length := z82 (by rw [z1k, hlt, hall]; omega)
        have hfz : ∀ o, z43 (Ent.grow8 l []).frz o → (z18 (v8 l ++ rest) off (v8 (new.take (min new.length len))))[o]? = (v8 l ++ rest)[o]? := fun o ho => by obtain ⟨_, h, _⟩ := ho; simp [Ent.frz] at h
        have gw := z6e (I := I) (e' := .grow8 (l.take off ++ (new.take len ++ l.drop (off + min new.length len))) []) hid rfl w1 w2 hlenV hfz rfl (fun _ => rfl)
        obtain ⟨cw, mw⟩ := z7w (e' := .grow8 (l.take off ++ (new.take len ++ l.drop (off + min new.length len))) []) c hid rfl w1 w2 hlenV hfz rfl (fun _ => rfl) rfl w4 (fun cs' f h => by simp at h)
         (fun _ => ⟨trivial, _, rest, hnew, by rw [Ent.z1m4]; exact zcm⟩)
        exact ⟨_, _, _, hrun, gw, cw, mw, zj.2 rfl⟩
       ·have hm : (Builtin.firstCells 1 0 vx).run P w = .ok #[] w := by simpa [v8] using s2 0 (Nat.zero_le _)
        have hrun := z13x (P := P) (ty := ty) (tx := tx) (a := a) q2 hte hs1 s1 hm;have hsame : Ent.grow8 (l.take off ++ (new.take 0 ++ l.drop (off + min new.length 0))) [] = .grow8 l [] := by simp
        have hu : zm H [(id, Ent.grow8 (l.take off ++ (new.take 0 ++ l.drop (off + min new.length 0))) [])] = H := by
         rw [hsame];show H.set id _ = H;apply List.ext_getElem?;intro i;rw [List.getElem?_set]
         split
         ·rename_i e; subst e; split
          ·exact hid.symm
          ·rename_i hc; simp; omega
         ·rfl
        rw [hu];exact ⟨_, _, _, hrun, Good.refl _ _ _ _, c, Mono.z1lu, zj.2 (by simp)⟩
      ·rename_i cs f hid
       split at h
       ·rename_i m l hm;simp only [Option.some.injEq] at h;subst h;obtain ⟨h1, h2, _, rfl, rfl⟩ := hh;simp only [Bool.and_eq_true, beq_iff_eq, List.isEmpty_iff, bne_iff_ne, ne_eq] at h1;obtain ⟨⟨hs1, rfl, rfl⟩, ⟨rfl, hne⟩, h3⟩ := h1;have h3 := zh.1 h3;obtain ⟨s1, s2⟩ := zr1 (P := P) c rx hsrc h2;rcases z2j.1 rd with ⟨b, cap, g1, rfl, g2, g3, g4⟩ | ⟨rfl, a, rfl⟩
        ·obtain ⟨b', el, fr, us, w1, w2, w3, w4⟩ := c.blk id cs [] hid;rw [w1] at g1;simp only [Option.some.injEq] at g1;subst g1;have hus := z3g _ _ w3;have hseg := zad _ _ m (z62 _ _ off w3);rw [hm] at hseg;obtain ⟨ys, zs, e0, ⟨rfl, hlm⟩, hz⟩ := z12.1 hseg;cases hz;rw [List.append_nil] at e0;have hmn : min new.length m ≤ new.length := Nat.min_le_left _ _;have hlt : (new.take (min new.length m)).length = min new.length m := by rw [List.length_take]; omega
         have w2' : w.heap[b']? = some (.cells us.toArray el fr) := w2;have hrun := zr7 (P := P) (ty := ty) (tx := tx) (cap := cap) q2 hte hs1 s1 (s2 _ hmn) (fun j hj => by have hj' := hlt ▸ hj; rw [cell_of_heap w2', List.getElem?_eq_getElem (show off + j < us.length by omega)]; rfl)
          (fun j hj => by
           have := w4.2 (off + j) (by rw [hlt] at hj; omega)
           unfold World.frozen?;rw [w2'];simpa using this)
         rw [z6k _ off _ w w2' (by rw [z1k, hlt]; omega)] at hrun
         have hset := zd9 cs us off (.b8 m (new.take m ++ l.drop (min new.length m))) (v8 (new.take m ++ l.drop (min new.length m))) w3 ⟨rfl, by simp only [List.length_append, List.length_take, List.length_drop]; omega⟩ (by simpa [szA] using h3) (by simp [szA]; omega)
         have hnl : (v8 (new.take m ++ l.drop (min new.length m))).length = m := by
          rw [z1k];simp only [List.length_append, List.length_take, List.length_drop];omega
         have hsp : z18 us off (v8 (new.take m ++ l.drop (min new.length m))) = z18 us off (v8 (new.take (min new.length m))) := by
          have hl2 : v8 l = (us.drop off).take m := e0.symm;unfold z18;rw [hnl, z1k, hlt, ← zbi, ← zah, hl2, List.append_assoc]
          congr 1
          rw [List.drop_take, List.drop_drop];have e1 : new.take m = new.take (min new.length m) := by
           rcases Nat.le_total new.length m with hc | hc
           ·rw [Nat.min_eq_left hc, List.take_of_length_le (Nat.le_refl _), List.take_of_length_le hc]
           ·rw [Nat.min_eq_right hc]
          rw [e1]
          congr 1
          have e2 : us.drop (off + m) = (us.drop (off + min new.length m)).drop (m - min new.length m) := by rw [List.drop_drop]; congr 1; omega
          rw [e2, List.take_append_drop]
         rw [← hsp] at hrun;have hlenV : (z18 us off (v8 (new.take m ++ l.drop (min new.length m)))).length = us.length := z82 (by rw [hnl]; omega)
         have hfz : ∀ o, z43 (Ent.blk cs []).frz o → (z18 us off (v8 (new.take m ++ l.drop (min new.length m))))[o]? = us[o]? := fun o ho => by obtain ⟨_, h, _⟩ := ho; simp [Ent.frz] at h
         have gw := z6e (I := I) (e' := .blk (za0 cs off (.b8 m (new.take m ++ l.drop (min new.length m)))) []) hid rfl w1 w2' hlenV hfz rfl (fun h => by simp [Ent.grows] at h)
         obtain ⟨cw, mw⟩ := z7w (e' := .blk (za0 cs off (.b8 m (new.take m ++ l.drop (min new.length m)))) []) c hid rfl w1 w2' hlenV hfz rfl (fun h => by simp [Ent.grows] at h) rfl w4
          (fun cs' f h => by simp only [Ent.blk.injEq] at h; obtain ⟨rfl, _⟩ := h; exact hset) (fun h => by simp [Ent.grows] at h)
         exact ⟨_, _, _, hrun, gw, cw, mw, zj.2 rfl⟩
        ·exact absurd rfl hne
       ·simp at h
      ·simp at h
     ·simp at h
    ·simp at h
   ·simp at h
  ·simp at h
 ·simp at h
theorem EffOk.z1lp {o : Oper} {e : Operand → Value} {s : Sem Value} (he : ∀ (x : Value) (w' : World), s.run P w = .ok x w' → (execOp e o).run P w = .ok (.value x) w') {v : AV} {u : List (Nat × Ent)}
  (h : ∃ v' w' ρ', s.run P w = .ok v' w' ∧ Good ρ I H w ρ' I (zm H u) w' ∧ Conc G.g ρ' I (zm H u) w' ∧ Mono ρ I w ρ' I w' ∧ rel ρ' I w' v v') : EffOk G ρ I H w ((execOp e o).run P w) v u := by
 obtain ⟨v', w', ρ', h1, h2, h3, h4, h5⟩ := h;exact ⟨v', w', .inl (he _ _ h1), ρ', I, h2, h3, h4, h5⟩
theorem z1af {g : Nat → Option (List AV)} (c : Conc g ρ I H w) {id b : Nat} {e : Ent} (hid : H[id]? = some e) (hl : e.live = true) (hf : e.frz = []) (hb : ρ id = some (some b))
  {cells : Array Value} {el : TypeId} {fr fr' : Nat × Nat} (hw : w.heap[b]? = some (.cells cells el fr)) (hcl : clear fr cells.size → clear fr' cells.size) :
  Good ρ I H w ρ I H (z3l w b (.cells cells el fr')) ∧ Conc g ρ I H (z3l w b (.cells cells el fr')) ∧ Mono ρ I w ρ I (z3l w b (.cells cells el fr')) := by
 have hlt : b < w.heap.size := (Array.getElem?_eq_some_iff.1 hw).1;have hmut : ∀ o, Mut ρ H b o := fun o => ⟨id, e, hid, hl, hb, by rw [hf]; rintro ⟨r, hr, _⟩; simp at hr⟩
 have hcell : ∀ b' o, (z3l w b (.cells cells el fr')).cell? ⟨b', o, none⟩ = w.cell? ⟨b', o, none⟩ := by
  intro b' o;simp only [World.cell?];rw [z3y hlt]
  by_cases hbb : b' = b
  ·subst hbb; rw [if_pos rfl, hw]
  ·rw [if_neg hbb]
 have hbs : ∀ b', bsz (z3l w b (.cells cells el fr')) b' = bsz w b' := by
  intro b';unfold bsz;rw [z3y hlt]
  by_cases hbb : b' = b
  ·subst hbb; rw [if_pos rfl, hw]
  ·rw [if_neg hbb]
 have gd : Good ρ I H w ρ I H (z3l w b (.cells cells el fr')) := ⟨fun _ _ h => h, fun _ _ _ h => h, Nat.le_refl _, fun _ _ h => h, fun _ _ _ h => .inl h, rfl, rfl, rfl, by simp [z3l], fun b' o _ _ => hcell b' o,
  fun b' _ hm => by
   rw [z3y hlt]
   by_cases hbb : b' = b
   ·subst hbb; exact absurd (hmut 0) (hm 0)
   ·rw [if_neg hbb], fun b' _ => hbs b', fun _ _ _ h => h, fun _ _ h => h⟩
 have m := c.mono gd (fun _ _ h => h)
 have hget : ∀ (b1 : Nat) (cs : Array Value) (el1 : TypeId) (fr1 : Nat × Nat), w.heap[b1]? = some (Obj.cells cs el1 fr1) → clear fr1 cs.size → ∃ el2 fr2, (z3l w b (.cells cells el fr')).heap[b1]? = some (Obj.cells cs el2 fr2) ∧ clear fr2 cs.size := by
  intro b1 cs el1 fr1 h1 h2;rw [z3y hlt]
  by_cases hbb : b1 = b
  ·subst hbb;rw [hw] at h1;simp only [Option.some.injEq, Obj.cells.injEq] at h1;obtain ⟨rfl, rfl, rfl⟩ := h1;exact ⟨_, _, by rw [if_pos rfl], hcl h2⟩
  ·exact ⟨el1, fr1, by rw [if_neg hbb]; exact h1, h2⟩
 refine ⟨gd, ⟨c.dom, c.res, fun i x hx => by simpa [z3l] using c.blt i x hx, c.inj, ?_, ?_, ?_, ?_⟩, m⟩
 ·intro i cs f h;obtain ⟨b1, el1, fr1, us, k1, k2, k3, k4⟩ := c.blk i cs f h;obtain ⟨el2, fr2, q1, q2⟩ := hget _ _ _ _ k2 (by simpa using k4)
  exact ⟨b1, el2, fr2, us, k1, q1, z15 m _ _ k3, by simpa using q2⟩
 ·intro i e1 h hg1;obtain ⟨k0, ⟨k1, k2⟩ | ⟨b1, el1, fr1, us, rest, k1, k2, k3, k4⟩⟩ := c.grow i e1 h hg1
  ·exact ⟨k0, .inl ⟨k1, k2⟩⟩
  ·obtain ⟨el2, fr2, q1, q2⟩ := hget _ _ _ _ k2 (by simpa using k4)
   exact ⟨k0, .inr ⟨b1, el2, fr2, us, rest, k1, q1, z15 m _ _ k3, by simpa using q2⟩⟩
 ·intro x o hx;obtain ⟨k1, k2⟩ := c.imm x o hx;exact ⟨by simpa [z3l] using k1, k2⟩
 ·intro gl cs h;obtain ⟨us, k1, k2⟩ := c.glob gl cs h;exact ⟨us, z4q m k1, k2.mono m.imm⟩
theorem z10s {fr : Nat × Nat} {n : Nat} (h : clear fr n) : clear (if fr.1 == fr.2 then (n, n + 1) else (min fr.1 n, max fr.2 (n + 1))) n := by
 obtain ⟨h1, h2⟩ := h
 by_cases he : fr.1 = fr.2
 ·simp only [beq_iff_eq, he, if_true];exact ⟨by simp, fun o ho => by simp; omega⟩
 ·simp only [beq_iff_eq, he, if_false];have : n ≤ fr.1 := by
   refine Classical.byContradiction fun hn => h2 fr.1 (by omega) ⟨Nat.le_refl _, by omega⟩
  exact ⟨by simp only []; omega, fun o ho => by simp only []; omega⟩
theorem run_mark {t e : TypeId} (ht : P.underlying t = some (.slice e)) (he : P.underlying e = some (.int .u8)) {b off : Nat} {cells : Array Value} {el : TypeId} {fr : Nat × Nat}
  (hw : w.heap[b]? = some (.cells cells el fr)) (n k : Nat) :
  (convert t t (.slice (some ⟨b, off, none⟩) n k)).run P w = .ok (.slice (some ⟨b, off, none⟩) n k) (z3l w b (.cells cells el (if fr.1 == fr.2 then (cells.size, cells.size + 1) else (min fr.1 cells.size, max fr.2 (cells.size + 1))))) := by
 have hsh : w.shape? b = some (el, cells.size) := by unfold World.shape?; rw [hw]
 have hlt : b < w.heap.size := (Array.getElem?_eq_some_iff.1 hw).1;have hfr : w.freeze ⟨b, cells.size, none⟩ 1 = z3l w b (.cells cells el (if fr.1 == fr.2 then (cells.size, cells.size + 1) else (min fr.1 cells.size, max fr.2 (cells.size + 1)))) := by
  unfold World.freeze z3l;rw [if_neg (by decide)]
  congr 1
  apply Array.ext
  ·simp
  ·intro i h1 h2;simp only [Array.getElem_modify, Array.getElem_setIfInBounds]
   by_cases h : b = i
   ·subst h;have : w.heap[b] = .cells cells el fr := by
     rw [Array.getElem?_eq_getElem hlt] at hw;exact Option.some.inj hw
    simp [this]
   ·have h' : ¬ (({ block := b, off := cells.size } : Addr).block = i) := h;rw [if_neg h'];exact (Array.getElem_setIfInBounds_ne (by simpa using h1) h).symm
 simp only [beq_iff_eq] at hfr;simp [convert, run_underlying ht, run_underlying he, markStringish, hsh];exact hfr
theorem zez (c : Conc G.g ρ I H w) (ev : Operand → AV) (e : Operand → Value) (r : ∀ x, rel ρ I w (ev x) (e x)) (o : Oper) (nid : Nat) (E : Eff) (v : AV) (u : List (Nat × Ent)) (h : z81 G o.op ev H nid = some E) (hh : E.has v u) :
  EffOk G ρ I H w ((execOp e o).run P w) v u := by
 have pure1 : ∀ {s : Sem Value} {p : Bool × AV} {x : Value}, (∀ (x : Value) (w' : World), s.run P w = .ok x w' → (execOp e o).run P w = .ok (.value x) w') → s.run P w = .ok x w → rel ρ I w p.2 x → E = .one p.1 p.2 [] → EffOk G ρ I H w ((execOp e o).run P w) v u := by
  rintro s p x he h1 h2 rfl;obtain ⟨_, rfl, rfl⟩ := hh;exact EffOk.z1lp he ⟨x, w, ρ, h1, Good.refl _ _ _ _, c, Mono.z1lu, h2⟩
 unfold z81 at h
 split at h
 ·rename_i t x lo hi mx hop;have he : ∀ (y : Value) (w' : World), (Instr.sliceAt t (e x) (lo.map e) (hi.map e) (mx.map e)).run P w = .ok y w' → (execOp e o).run P w = .ok (.value y) w' := fun y w' h => by simp [execOp, hop, h]
  split at h
  ·rename_i ti lo' hi' hti hlo hhi;have b1 := zk9 (ρ := ρ) (I := I) (w := w) (e := e) r hlo;have b2 := zk9 (ρ := ρ) (I := I) (w := w) (e := e) r hhi
   split at h
   ·split at h
    ·rename_i cc v' hs;simp only [Option.some.injEq] at h;subst h;obtain ⟨y, k1, k2⟩ := zur c hti (r x) b1 b2 hs hh.1;exact pure1 (p := (cc, v')) he k1 k2 rfl
    ·simp at h
   ·rename_i m
    split at h
    ·rename_i hh' k n hm
     split at h
     ·rename_i cc v' hs;simp only [Option.some.injEq] at h;subst h;have b3 : BV ((some m).map e) (some n) := ⟨k, z6q hm (r m)⟩;obtain ⟨y, k1, k2⟩ := z15v hti (r x) b1 b2 b3 hs hh.1;exact pure1 (p := (cc, v')) he k1 k2 rfl
     ·simp at h
    ·simp at h
  ·simp at h
 ·rename_i t l k hop;exact EffOk.z1lp (s := Instr.makeSlice t (e l) (e k)) (fun y w' h => by simp [execOp, hop, h]) (zx0 c (r l) (r k) h hh)
 ·rename_i t len parts hop;refine EffOk.z1lp (s := Instr.buildSlice t len (parts.map fun (i, x) => (i, e x))) (fun y w' h => by simp only [execOp, hop, Sem.run_bind, h, Result.andThen_ok]; rfl) (zbn c ?_ ?_ h hh)
  ·simp [Function.comp_def]
  ·simpa [Function.comp_def] using zj1 r parts.toList
 ·rename_i s d x hop
  split at h
  ·rename_i ts td id off kk len hts htd hx;obtain ⟨js, ds, _, s2, _, _, s5, _⟩ := z1a hts;obtain ⟨jd, dd, _, d2, _, _, d5, _⟩ := z1a htd
   split at h
   ·rename_i e0 e' hks hkd;rw [hkd] at d5;obtain rfl := TK.of_slice d5
    split at h
    ·rename_i te hte;obtain ⟨je, de, _, e2, _, _, e5, _⟩ := z1a hte
     split at h
     ·rename_i hke;rw [hke] at e5;obtain rfl := TK.of_int e5
      split at h
      ·rename_i l f hid;simp only [Option.some.injEq] at h;subst h;obtain ⟨h1, _, rfl, rfl⟩ := hh;simp only [Bool.and_eq_true, beq_iff_eq, List.isEmpty_iff, z1z] at h1;obtain ⟨⟨rfl, rfl⟩, h3⟩ := h1;have hv := r x;rw [hx] at hv;rcases z2j.1 hv with ⟨b, cap, k1, k2, k3, k4, k5⟩ | ⟨k1, _⟩
       ·obtain ⟨k0, ⟨k1', _⟩ | ⟨b1, el1, fr1, us, rest, q1, q2, q3, q4⟩⟩ := c.grow id _ hid rfl
        ·rw [k1] at k1'; simp at k1'
        ·rw [k1] at q1;simp only [Option.some.injEq] at q1;subst q1;obtain ⟨g1, g2, g3⟩ := z1af c hid rfl rfl k1 q2 z10s;refine EffOk.z1lp (s := convert s s (e x)) (fun y w' h => by simp [execOp, hop, h]) ⟨_, _, _, by rw [k2]; exact run_mark d2 e2 q2 _ _, g1, g2, g3, ?_⟩
         rw [← k2];exact z8o g3 hv
       ·omega
      ·simp at h
     ·simp at h
    ·simp at h
   ·simp at h
  ·rename_i ts td l hts htd hx;obtain ⟨js, ds, _, s2, _, _, s5, _⟩ := z1a hts;obtain ⟨jd, dd, _, d2, _, _, d5, _⟩ := z1a htd
   split at h
   ·rename_i e' hks hkd;rw [hks] at s5;rw [hkd] at d5;obtain rfl := TK.of_string s5;obtain rfl := TK.of_slice d5
    split at h
    ·rename_i te hte;obtain ⟨je, de, _, e2, _, _, e5, _⟩ := z1a hte
     split at h
     ·rename_i hke;rw [hke] at e5;obtain rfl := TK.of_int e5;simp only [Option.some.injEq] at h;subst h;obtain ⟨h1, _, rfl, rfl⟩ := hh;simp only [Bool.and_eq_true, beq_iff_eq] at h1;have hv : e x = .string ⟨l.toArray⟩ := by
       have := r x;rw [hx] at this;exact zi.1 this
      have hrun := Lib.run_convert_string_bytes (P := P) w s d e' ⟨l.toArray⟩ s2 d2 e2;have hcs : Lib.bytesCells w e' ⟨l.toArray⟩ = (v8 l ++ (Array.replicate (grownCap w l.length 0 e' - l.length) (Value.int .u8 0)).toList).toArray := by
       simp [Lib.bytesCells, v8, ByteArray.size]
      have hnew := Lib.bytesWorld_at_new w e' ⟨l.toArray⟩;rw [hcs] at hnew;have hge := grownCap_ge w l.length 0 e';obtain ⟨g1, g2, g3⟩ := zh4 (w' := Lib.bytesWorld w e' ⟨l.toArray⟩) (e := .grow8 l []) c (z7f h1.1) rfl trivial (Lib.bytesWorld_size _ _ _) (fun b hb => Lib.bytesWorld_at_old _ _ _ b hb) hnew zcm ⟨by simp, fun o ho => by simp at ho ⊢; omega⟩ rfl rfl rfl
      refine EffOk.z1lp (s := convert s d (e x)) (fun y w' h => by simp [execOp, hop, h]) ⟨_, _, _, by rw [hv]; exact hrun, g1, g2, g3, ?_⟩
      have := zo1 (ρ := ρ) (I := I) (nid := nid) (n := l.length) (cap := grownCap w l.length 0 e') (k := 1) (Lib.bytesWorld_size w e' ⟨l.toArray⟩) hnew hge (by simp [z1k]; omega)
      simpa [ByteArray.size] using this
     ·simp at h
    ·simp at h
   ·simp at h
  ·simp at h
 ·rename_i cl hop
  split at h
  ·rename_i hfo
   split at h
   ·rename_i s x t tx ha ht;have hargs : cl.args.map e = #[e s, e x] := by
     apply Array.toList_inj.1;simp [ha]
    have hat : cl.argTypes = #[t, tx] := by
     apply Array.toList_inj.1;simp [ht]
    refine EffOk.z1lp (s := Builtin.append_ #[t, tx] o.type #[e s, e x]) (fun y w' h => ?_) (zrx c (r s) (r x) h hh)
    rw [z3r hop hfo, hargs, hat];simp [builtin, h]
   ·simp at h
  ·rename_i hfo
   split at h
   ·rename_i s x t tx ha ht;have hargs : cl.args.map e = #[e s, e x] := by
     apply Array.toList_inj.1;simp [ha]
    have hat : cl.argTypes = #[t, tx] := by
     apply Array.toList_inj.1;simp [ht]
    refine EffOk.z1lp (s := Builtin.copy_ #[t, tx] o.type #[e s, e x]) (fun y w' h => ?_) (zxu c (r s) (r x) h hh)
    rw [z3r hop hfo, hargs, hat];simp [builtin, h]
   ·simp at h
  ·simp at h
 ·simp at h
end
section
variable {P : Program} {G : Env P} {H H' : Heap}
theorem z5r {nid : Nat} (h : H'[nid]? = H[nid]?) : z34 H' nid = z34 H nid := by unfold z34; rw [h]
theorem zpn {x : AV} (hr : ∀ id ∈ z1p x, H'[id]? = H[id]?) : z3q H' x = z3q H x := by
 cases x <;> simp only [z1p, List.mem_singleton, forall_eq] at hr <;> simp [z3q, hr]
theorem zj7 {ti : TI} {x : AV} {lo hi : Option Int} (hr : ∀ id ∈ z1p x, H'[id]? = H[id]?) : aSl G ti H' x lo hi = aSl G ti H x lo hi := by
 unfold aSl;cases ti.kind <;> cases x <;> simp_all [z1p, z4u]
theorem zo9 {tix : TI} {x : AV} (hr : ∀ id ∈ z1p x, H'[id]? = H[id]?) : zhb tix H' x = zhb tix H x := by
 cases x <;> simp only [zhb, zpn hr]
theorem z12e {tix : TI} {x : AV} (hr : ∀ id ∈ z1p x, H'[id]? = H[id]?) : zpg tix H' x = zpg tix H x := by
 cases x <;> simp only [z1p, List.mem_singleton, forall_eq] at hr <;> simp [zpg, hr]
theorem z10y {te : TI} {nid : Nat} {s : AV} {new : List UInt8} (hr : ∀ id ∈ z1p s, H'[id]? = H[id]?) : zm1 te H' nid s new = zm1 te H nid s new := by
 cases s <;> simp only [z1p, List.mem_singleton, forall_eq] at hr <;> simp [zm1, hr]
theorem z10e {te : TI} {nid : Nat} {s : AV} {new : List AV} (hr : ∀ id ∈ z1p s, H'[id]? = H[id]?) : zp7 te H' nid s new = zp7 te H nid s new := by
 cases s <;> simp only [z1p, List.mem_singleton, forall_eq] at hr <;> simp [zp7, hr]
theorem zrn {t tx nid : Nat} {s x : AV} (h0 : H'[nid]? = H[nid]?) (h1 : ∀ id ∈ z1p s, H'[id]? = H[id]?) (h2 : ∀ id ∈ z1p x, H'[id]? = H[id]?) : zci G t tx H' nid s x = zci G t tx H nid s x := by
 simp only [zci, zo9 h2, z12e h2, z10y h1, z10e h1, z5r h0]
theorem zxb {t tx : Nat} {d x : AV} (h1 : ∀ id ∈ z1p d, H'[id]? = H[id]?) (h2 : ∀ id ∈ z1p x, H'[id]? = H[id]?) : zkg G t tx H' d x = zkg G t tx H d x := by
 simp only [zkg, zo9 h2];cases d <;> simp only [z1p, List.mem_singleton, forall_eq] at h1 <;> simp [h1]
theorem zeu (op : Op) (ev ev' : Operand → AV) (H H' : Heap) (nid : Nat) (he : ∀ x ∈ op.operands, ev' x = ev x) (hr : ∀ id ∈ z1u ev op nid (z3d G op), H'[id]? = H[id]?) : z81 G op ev' H' nid = z81 G op ev H nid := by
 have opt : ∀ o : Option Operand, (∀ x ∈ o, ev' x = ev x) → zam ev' o = zam ev o := by
  intro o ho;cases o with
  | none => rfl
  | some x => simp only [zam, ho x rfl]
 cases op with
 | slice t x lo hi mx =>
  have hx : ev' x = ev x := he x (by simp [Op.operands])
  have hlo := opt lo fun y hy => he y (by simp [Op.operands]; rcases lo with _ | z <;> simp_all)
  have hhi := opt hi fun y hy => he y (by simp [Op.operands]; rcases hi with _ | z <;> simp_all)
  have hs : ∀ id ∈ z1p (ev x), H'[id]? = H[id]? := fun id hid => hr id (by simp only [z1u]; exact List.mem_append_left _ (z4h (by simp [Op.operands]) hid))
  cases mx with
  | none => simp only [z81, hx, hlo, hhi, zj7 hs]
  | some m =>
   have hm : ev' m = ev m := he m (by simp [Op.operands])
   simp only [z81, hx, hlo, hhi, hm, zj7 hs]
 | makeSlice t l c =>
  have h0 : H'[nid]? = H[nid]? := hr nid (by simp [z1u, z3d, upTo])
  simp only [z81, he l (by simp [Op.operands]), he c (by simp [Op.operands]), zsx, z5r h0]
 | buildSlice t len parts =>
  have h0 : H'[nid]? = H[nid]? := hr nid (by simp [z1u, z3d, upTo])
  have hp : (parts.toList.map fun p => (p.1, ev' p.2)) = parts.toList.map fun p => (p.1, ev p.2) := by
   apply List.map_congr_left;intro p hp;rw [he p.2 (by simp only [Op.operands, List.mem_toArray, List.mem_map]; exact ⟨p, hp, rfl⟩)]
  simp only [z81, hp, z6o, z5r h0]
 | convert s d x =>
  simp only [z81, he x (by simp [Op.operands])]
  split
  ·rename_i ts td id off kk len hts htd hx;rw [hr id (by simp only [z1u]; exact List.mem_append_left _ (z4h (x := x) (by simp [Op.operands]) (by rw [hx]; simp [z1p])))]
  ·rename_i ts td l hts htd hx
   split
   ·rename_i e' hks hkd;have h0 : H'[nid]? = H[nid]? := hr nid (by simp [z1u, z3d, upTo, htd, hkd])
    rw [z5r h0]
   ·rfl
  ·rfl
 | call c =>
  have hm : ∀ x ∈ c.args.toList, ev' x = ev x ∧ ∀ id ∈ z1p (ev x), H'[id]? = H[id]? := fun x hx =>
   have hx' : x ∈ (Op.call c).operands.toList := by simp [Op.operands, Call.operands]; right; simpa using hx
   ⟨he x (by simpa using hx'), fun id hid => hr id (by simp only [z1u]; exact List.mem_append_left _ (z4h hx' hid))⟩
  simp only [z81]
  split
  ·rename_i hfo;have h0 : H'[nid]? = H[nid]? := hr nid (by simp [z1u, z3d, upTo, hfo])
   split
   ·rename_i s x t tx ha ht;obtain ⟨e1, r1⟩ := hm s (by rw [ha]; simp)
    obtain ⟨e2, r2⟩ := hm x (by rw [ha]; simp)
    rw [e1, e2, zrn h0 r1 r2]
   ·rfl
  ·split
   ·rename_i s x t tx ha ht;obtain ⟨e1, r1⟩ := hm s (by rw [ha]; simp)
    obtain ⟨e2, r2⟩ := hm x (by rw [ha]; simp)
    rw [e1, e2, zxb r1 r2]
   ·rfl
  ·rfl
 | _ => rfl
def ROps.std (G : Env P) : ROps G := { f := z81 G, congr := zeu, sound := fun _ _ _ _ c ev e r o nid E v u h hh => zez c ev e r o nid E v u h hh }
end
end
noncomputable section
def Ent.freeze (r : Nat × Nat) : Ent → Ent
 | .blk c f => .blk c (r :: f)
 | .grow8 l f => .grow8 l (r :: f)
 | .grow k rows f => .grow k rows (r :: f)
 | e => e
def zgk (I : Imm) (b : Nat) (r : Nat × Nat) : Imm := fun x o => I x o ∨ (x = b ∧ r.1 ≤ o ∧ o < r.2)
section
variable {g : Nat → Option (List AV)} {ρ : Rho} {I : Imm} {H : Heap} {w : World}
theorem zxp (c : Conc g ρ I H w) {id b : Nat} {e : Ent} (hid : H[id]? = some e) (hl : e.live = true) (hf : e.frz = []) (hb : ρ id = some (some b)) (r : Nat × Nat) :
  Good ρ I H w ρ (zgk I b r) (H.set id (e.freeze r)) w ∧ Conc g ρ (zgk I b r) (H.set id (e.freeze r)) w ∧ Mono ρ I w ρ (zgk I b r) w := by
 have hfl : (e.freeze r).live = true := by cases e <;> simp_all [Ent.freeze, Ent.live]
 have hfz : (e.freeze r).frz = [r] := by cases e <;> simp_all [Ent.freeze, Ent.live, Ent.frz]
 have hfg : (e.freeze r).grows = e.grows := by cases e <;> rfl
 have hfc : (e.freeze r).cells = e.cells := by cases e <;> rfl
 have live : ∀ (k : Nat) (e3 : Ent), (H.set id (e.freeze r))[k]? = some e3 → e3.live = true → ∃ e4 : Ent, H[k]? = some e4 ∧ e4.live = true ∧ (∀ o, z43 e4.frz o → z43 e3.frz o) := by
  intro k e3 hk l3;rcases z17 hk with ⟨rfl, rfl⟩ | ⟨_, h⟩
  ·exact ⟨e, hid, hl, fun o h => by rw [hf] at h; obtain ⟨_, h, _⟩ := h; simp at h⟩
  ·exact ⟨e3, h, l3, fun _ h => h⟩
 have mutb : ∀ x o, Mut ρ (H.set id (e.freeze r)) x o → Mut ρ H x o := by
  rintro x o ⟨k, e3, h1, h2, h3, h4⟩;obtain ⟨e4, k1, k2, k3⟩ := live k e3 h1 h2;exact ⟨k, e4, k1, k2, h3, fun h => h4 (k3 o h)⟩
 have hm : ∀ o, Mut ρ H b o := fun o => ⟨id, e, hid, hl, hb, by rw [hf]; rintro ⟨_, h, _⟩; simp at h⟩
 have m : Mono ρ I w ρ (zgk I b r) w := ⟨fun _ _ h => h, fun _ _ h => ⟨.inl h, rfl⟩, fun _ h => ⟨h, rfl⟩⟩
 refine ⟨⟨fun _ _ h => h, ?_, by simp, fun _ _ h => .inl h, ?_, rfl, rfl, rfl, Nat.le_refl _, fun _ _ _ _ => rfl, fun _ _ _ => rfl, fun _ _ => rfl, fun x o _ h => mutb x o h, ?_⟩, ⟨fun i h => by simpa using c.dom i h, ?_, c.blt, ?_, ?_, ?_, ?_, ?_⟩, m⟩
 ·rintro i x _ ⟨e1, h1, h2⟩;rcases z17 h1 with ⟨rfl, rfl⟩ | ⟨_, h⟩
  ·exact ⟨e, hid, by rwa [hfg] at h2⟩
  ·exact ⟨e1, h, h2⟩
 ·rintro x o _ (h | ⟨rfl, _⟩)
  ·exact .inl h
  ·exact .inr (hm o)
 ·rintro x _ ⟨k, e3, h1, h2, h3⟩;obtain ⟨e4, k1, k2, _⟩ := live k e3 h1 h2;exact ⟨k, e4, k1, k2, h3⟩
 ·intro i h;rcases z17 h with ⟨rfl, h'⟩ | ⟨_, h⟩
  ·rw [← h'] at hfl; simp [Ent.live] at hfl
  ·exact c.res i h
 ·intro i j x e1 e2 hi l1 hj l2 r1 r2;obtain ⟨e3, k1, k2, _⟩ := live i e1 hi l1;obtain ⟨e4, k3, k4, _⟩ := live j e2 hj l2;exact c.inj i j x e3 e4 k1 k2 k3 k4 r1 r2
 ·intro i cs f h;rcases z17 h with ⟨rfl, h'⟩ | ⟨_, h⟩
  ·cases e <;> simp only [Ent.freeze, Ent.blk.injEq, reduceCtorEq] at h'
   obtain ⟨rfl, _⟩ := h';obtain ⟨b1, el1, fr1, us, k1, k2, k3, k4⟩ := c.blk i _ _ hid;exact ⟨b1, el1, fr1, us, k1, k2, z15 m _ _ k3, k4⟩
  ·obtain ⟨b1, el1, fr1, us, k1, k2, k3, k4⟩ := c.blk i cs f h;exact ⟨b1, el1, fr1, us, k1, k2, z15 m _ _ k3, k4⟩
 ·intro i e1 h hg1;have fin : ∀ e2 : Ent, H[i]? = some e2 → e2.grows = true → e2.cells = e1.cells → (e2.even → e1.even) → e1.even ∧ ((ρ i = some none ∧ szL e1.cells = 0) ∨ ∃ b' el fr cs rest, ρ i = some (some b') ∧ w.heap[b']? = some (.cells (List.toArray (cs ++ rest)) el fr) ∧ RL ρ (zgk I b r) w e1.cells cs ∧ clear fr (cs ++ rest).length) := by
   intro e2 h2 g2 hc hev;obtain ⟨k0, k⟩ := c.grow i e2 h2 g2;rw [hc] at k;refine ⟨hev k0, ?_⟩;rcases k with k | ⟨b1, el1, fr1, us, rest, k1, k2, k3, k4⟩
   ·exact .inl k
   ·exact .inr ⟨b1, el1, fr1, us, rest, k1, k2, z15 m _ _ k3, k4⟩
  rcases z17 h with ⟨rfl, rfl⟩ | ⟨_, h⟩
  ·exact fin e hid (by rwa [hfg] at hg1) hfc.symm (fun h => by cases e <;> simp_all [Ent.freeze, Ent.even])
  ·exact fin e1 h hg1 rfl (fun h => h)
 ·rintro x o (hx | ⟨rfl, h1, h2⟩)
  ·obtain ⟨k1, k2⟩ := c.imm x o hx;exact ⟨k1, fun h => k2 (mutb x o h)⟩
  ·refine ⟨c.blt id x hb, ?_⟩;rintro ⟨k, e3, k1, k2, k3, k4⟩;rcases z17 k1 with ⟨rfl, rfl⟩ | ⟨hne, h⟩
   ·exact k4 (by rw [hfz]; exact ⟨r, by simp, h1, h2⟩)
   ·exact hne (c.inj k id x e3 e h k2 hid hl k3 hb)
 ·intro gl cs h;obtain ⟨us, k1, k2⟩ := c.glob gl cs h;exact ⟨us, z4q m k1, k2.mono m.imm⟩
end
section
variable {P : Program} (G : Env P)
def z124 (ti : TI) : Option (Nat × Nat) := match ti.kind with
 | .arr n e => some (n, e)
 | .ptr a => match G.ty a with
  | some ta => match ta.kind with
   | .arr n e => some (n, e)
   | _ => none
  | none => none
 | _ => none
def zpb (op : Op) (ev : Operand → AV) (H : Heap) : Option Eff :=
 match op with
 | .slice t x lo hi none => match G.ty t, zam ev lo, zam ev hi, ev x with
  | some ti, some lo', some hi', .ptr id off => match z124 G ti, H[id]? with
   | some (n, e), some (.blk c f) => match z6x (z56 c off) n, aSl G ti H (.ptr id off) lo' hi', G.ty e with
    | [.b8 m l], some (cc, _), some te => some (.ck ((te.size == 1 && m == n) && f.isEmpty) (.one cc (.vec8 false (zx lo' hi' l)) [(id, .blk c [(off + loN lo', off + hiN n hi')])]))
    | _, _, _ => none
   | _, _ => none
  | _, _, _, _ => none
 | _ => none
end
section
variable {P : Program} {G : Env P} {ρ : Rho} {I : Imm} {H : Heap} {w : World}
theorem z1d0 {ti te : TI} {n e id off : Nat} {lo hi : Option Int} {cc : Bool} {v : AV} (ha : z124 G ti = some (n, e)) (he : G.ty e = some te) (h : aSl G ti H (.ptr id off) lo hi = some (cc, v)) :
  v = .sl id (off + loN lo * te.size) te.size (hiN n hi - loN lo) ∧ (cc = true → z1d lo hi n = true) := by
 unfold z124 at ha;unfold aSl at h
 split at ha
 ·rename_i n' e' hk;simp only [Option.some.injEq, Prod.mk.injEq] at ha;obtain ⟨rfl, rfl⟩ := ha;rw [hk] at h;simp only [he] at h
  split at h
  ·obtain ⟨rfl, rfl⟩ := spE h;exact ⟨rfl, fun h => by simp only [Bool.and_eq_true] at h; exact h.2⟩
  ·simp at h
 ·rename_i a hk
  split at ha
  ·rename_i ta hta
   split at ha
   ·rename_i n' e' hka;simp only [Option.some.injEq, Prod.mk.injEq] at ha;obtain ⟨rfl, rfl⟩ := ha;rw [hk] at h;simp only [hta, hka, he] at h
    split at h
    ·obtain ⟨rfl, rfl⟩ := spE h;exact ⟨rfl, fun h => by simp only [Bool.and_eq_true] at h; exact h.2⟩
    ·simp at h
   ·simp at ha
  ·simp at ha
 ·simp at ha
theorem EffOk.z1lw {o : Oper} {e : Operand → Value} {s : Sem Value} (he : ∀ (x : Value) (w' : World), s.run P w = .ok x w' → (execOp e o).run P w = .ok (.value x) w') {v : AV} {u : List (Nat × Ent)}
  (h : ∃ v' w' ρ' I', s.run P w = .ok v' w' ∧ Good ρ I H w ρ' I' (zm H u) w' ∧ Conc G.g ρ' I' (zm H u) w' ∧ Mono ρ I w ρ' I' w' ∧ rel ρ' I' w' v v') : EffOk G ρ I H w ((execOp e o).run P w) v u := by
 obtain ⟨v', w', ρ', I', h1, h2, h3, h4, h5⟩ := h;exact ⟨v', w', .inl (he _ _ h1), ρ', I', h2, h3, h4, h5⟩
theorem z10d (c : Conc G.g ρ I H w) (ev : Operand → AV) (e : Operand → Value) (r : ∀ x, rel ρ I w (ev x) (e x)) (o : Oper) (E : Eff) (v : AV) (u : List (Nat × Ent)) (h : zpb G o.op ev H = some E) (hh : E.has v u) :
  EffOk G ρ I H w ((execOp e o).run P w) v u := by
 unfold zpb at h
 split at h
 ·rename_i t x lo hi hop
  split at h
  ·rename_i ti lo' hi' id off hti hlo hhi hx
   split at h
   ·rename_i n el cs f harr hid
    split at h
    ·rename_i m l cc v0 te hseg hsl hte;simp only [Option.some.injEq] at h;subst h;obtain ⟨h1, h2, rfl, rfl⟩ := hh;simp only [Bool.and_eq_true, beq_iff_eq, List.isEmpty_iff] at h1;obtain ⟨⟨h1, rfl⟩, rfl⟩ := h1;obtain ⟨rfl, hok⟩ := z1d0 harr hte hsl;have hok := hok h2;have b1 := zk9 (ρ := ρ) (I := I) (w := w) (e := e) r hlo;have b2 := zk9 (ρ := ρ) (I := I) (w := w) (e := e) r hhi;obtain ⟨y, k1, k2⟩ := zur c hti (by have := r x; rwa [hx] at this) b1 b2 hsl h2
     have hp := r x;rw [hx] at hp;obtain ⟨b, hb, hxe⟩ := z4a.1 hp;obtain ⟨b', el', fr, us, q1, q2, q3, q4⟩ := c.blk id cs [] hid;rw [hb] at q1;simp only [Option.some.injEq] at q1;subst q1;have q5 := zad _ _ m (z62 _ _ off q3);rw [hseg] at q5;obtain ⟨ys, zs, e1, ⟨e2, e3⟩, e4⟩ := z12.1 q5;cases e4;rw [List.append_nil] at e1;subst e2;obtain ⟨f1, f2, f3⟩ := zxp c hid rfl rfl hb (off + loN lo', off + hiN m hi');refine EffOk.z1lw (fun y w' h => by simp [execOp, hop, h]) (s := Instr.sliceAt t (e x) (lo.map e) (hi.map e) none) ⟨y, w, ρ, _, k1, f1, f2, f3, z22.2 ?_⟩
     obtain ⟨o1, o2, _, _⟩ := z2e hok;have hl := z6j (l := l) (lo := lo') (hi := hi') (by rw [e3]; exact hok)
     rw [e3] at hl;rw [h1, Nat.mul_one] at k2;rw [hl];rcases z2j.1 k2 with ⟨b2', cap, g1, rfl, g2, g3, g4⟩ | ⟨g1, a, rfl⟩
     ·rw [hb] at g1;simp only [Option.some.injEq] at g1;subst g1;refine ⟨_, cap, rfl, g2, by simp, .inr ⟨b, off + loN lo', rfl, g3, fun i z hz => ?_⟩⟩
      have hlen : (v8 (zx lo' hi' l)).length = hiN m hi' - loN lo' := by rw [z1k, hl]
      have hi3 : i < hiN m hi' - loN lo' := by rw [← hlen]; exact (List.getElem?_eq_some_iff.1 hz).1
      refine ⟨?_, .inr ⟨rfl, by simp only []; omega, by simp only []; omega⟩⟩
      rw [cell_of_heap q2];have hz2 : (v8 l)[loN lo' + i]? = some z := by
       rw [zm8 (by rw [e3]; exact hok), Nat.mul_one, Nat.mul_one, List.getElem?_take] at hz
       split at hz
       ·rwa [List.getElem?_drop] at hz
       ·simp at hz
      rw [← e1, List.getElem?_take] at hz2
      split at hz2
      ·rw [List.getElem?_drop] at hz2;rw [Nat.add_assoc]; exact hz2
      ·simp at hz2
     ·refine ⟨a, 0, ?_, by omega, by simp, .inl g1⟩
      rw [g1]
    ·simp at h
   ·simp at h
  ·simp at h
 ·simp at h
theorem z10c (op : Op) (ev ev' : Operand → AV) (H H' : Heap) (nid : Nat) (he : ∀ x ∈ op.operands, ev' x = ev x) (hr : ∀ id ∈ z1u ev op nid (z3d G op), H'[id]? = H[id]?) : zpb G op ev' H' = zpb G op ev H := by
 have opt : ∀ o : Option Operand, (∀ x ∈ o, ev' x = ev x) → zam ev' o = zam ev o := by
  intro o ho;cases o with
  | none => rfl
  | some x => simp only [zam, ho x rfl]
 cases op with
 | slice t x lo hi mx =>
  cases mx with
  | some m => rfl
  | none =>
   have hx : ev' x = ev x := he x (by simp [Op.operands])
   have hlo := opt lo fun y hy => he y (by simp [Op.operands]; rcases lo with _ | z <;> simp_all)
   have hhi := opt hi fun y hy => he y (by simp [Op.operands]; rcases hi with _ | z <;> simp_all)
   have hs : ∀ id ∈ z1p (ev x), H'[id]? = H[id]? := fun id hid => hr id (by simp only [z1u]; exact List.mem_append_left _ (z4h (by simp [Op.operands]) hid))
   simp only [zpb, hx, hlo, hhi]
   split
   ·rename_i ti lo' hi' id off h1 h2 h3 h4;rw [hs id (by rw [h4]; simp [z1p])]
    have := zj7 (G := G) (ti := ti) (x := .ptr id off) (lo := lo') (hi := hi') (H := H) (H' := H') (by rw [← h4]; exact hs)
    rw [this]
   ·rfl
 | _ => rfl
end
def ROps.frz {P : Program} (G : Env P) : ROps G where
 f := fun op ev H nid => match zpb G op ev H with
  | some E => some E
  | none => z81 G op ev H nid
 congr := fun op ev ev' H H' nid he hr => by rw [z10c op ev ev' H H' nid he hr, zeu op ev ev' H H' nid he hr]
 sound := fun _ _ _ _ c ev e r o nid E v u h hh => by
  split at h
  ·rename_i E' hE;simp only [Option.some.injEq] at h;subst h;exact z10d c ev e r o E' v u hE hh
  ·exact zez c ev e r o nid E v u h hh
end
noncomputable section
def z1i (n : Nat) (f : Nat → List AV) : List AV := (List.range n).map fun i => .agg (f i)
def zdi (n : Nat) (f g : Nat → List AV) (i : Nat) : List AV := bif ltB i n then f i else g (i - n)
def z4v (rows : List AV) (i : Nat) : List AV := (rows.getD i .any).cells
theorem z4z (n : Nat) (f : Nat → List AV) : (z1i n f).length = n := by simp [z1i]
theorem z95 {n : Nat} {f : Nat → List AV} {i : Nat} (h : i < n) : (z1i n f)[i]? = some (.agg (f i)) := by simp [z1i, h]
theorem z15u (n m : Nat) (f g : Nat → List AV) : z1i (n + m) (zdi n f g) = z1i n f ++ z1i m g := by
 apply List.ext_getElem?;intro i;rcases Nat.lt_or_ge i n with h | h
 ·rw [z95 (by omega), List.getElem?_append_left (by rw [z4z]; exact h), z95 h]
  simp [zdi, z1z.2 h]
 ·rcases Nat.lt_or_ge i (n + m) with h2 | h2
  ·rw [z95 h2, List.getElem?_append_right (by rw [z4z]; exact h), z4z, z95 (by omega)]
   have : ltB i n = false := by
    cases hb : ltB i n with
    | false => rfl
    | true => have := z1z.1 hb; omega
   simp [zdi, this]
  ·rw [List.getElem?_eq_none (by rw [z4z]; exact h2), List.getElem?_eq_none (by rw [List.length_append, z4z, z4z]; exact h2)]
section
variable {ρ : Rho} {I : Imm} {w : World}
theorem zcj {k : Nat} : ∀ {rows : List AV} {vs : List Value}, (∀ a ∈ rows, szA a = k) → RL ρ I w rows vs → vs.length = rows.length * k
 | [], _, _, h => by cases h; simp
 | a :: as, _, hk, h => by
  obtain ⟨ys, zs, rfl, h1, h2⟩ := z12.1 h;rw [List.length_append, z3o a ys h1, hk a (by simp), zcj (fun b hb => hk b (by simp [hb])) h2, List.length_cons, Nat.add_mul, Nat.one_mul, Nat.add_comm]
theorem z9o {k n : Nat} {f : Nat → List AV} {vs : List Value} (hk : ∀ a ∈ z1i n f, szA a = k) (h : RL ρ I w (z1i n f) vs) : vs.length = n * k ∧ ∀ i, i < n → RL ρ I w (f i) ((vs.drop (i * k)).take k) := by
 refine ⟨by rw [zcj hk h, z4z], fun i hi => ?_⟩
 obtain ⟨ys, h1, _, _, h4⟩ := zfn hk h (z95 hi);rw [h4];exact h1
theorem z9f {k n : Nat} {f : Nat → List AV} {vs : List Value} (hl : vs.length = n * k) (h : ∀ i, i < n → RL ρ I w (f i) ((vs.drop (i * k)).take k)) : RL ρ I w (z1i n f) vs ∧ ∀ a ∈ z1i n f, szA a = k := by
 refine ⟨ze8 n vs hl h, fun a ha => ?_⟩
 obtain ⟨i, hi, rfl⟩ := List.mem_map.1 ha;have hi := List.mem_range.1 hi;have := z3g _ _ (h i hi);rw [List.length_take, List.length_drop, hl, ← Nat.sub_mul] at this;have h1 : 1 * k ≤ (n - i) * k := Nat.mul_le_mul_right k (by omega)
 show szL (f i) = k;omega
theorem zkt {k : Nat} {rows : List AV} {vs : List Value} (hk : ∀ a ∈ rows, szA a = k) (h : RL ρ I w rows vs) : RL ρ I w (z1i rows.length (z4v rows)) vs ∧ ∀ a ∈ z1i rows.length (z4v rows), szA a = k := by
 refine z9f (zcj hk h) fun i hi => ?_
 obtain ⟨ys, h1, _, _, h4⟩ := zfn hk h (List.getElem?_eq_getElem hi);rw [h4];have : z4v rows i = rows[i].cells := by simp [z4v, hi]
 rw [this];exact zab h1
end
section
variable {g : Nat → Option (List AV)} {ρ : Rho} {I : Imm} {H : Heap} {w : World}
theorem z1dh (c : Conc g ρ I H w) {id b k m : Nat} {f : Nat → List AV} {F : List (Nat × Nat)} (hid : H[id]? = some (.grow k (z1i m f) F)) (hb : ρ id = some (some b)) (hF : ∀ o, z43 F o → o < m * k) :
  (∀ {ρ0 : Rho} {I0 : Imm} {H0 : Heap} {w0 : World}, Good ρ0 I0 H0 w0 ρ I H w → (∀ o, z43 F o → I b o ∨ w0.heap.size ≤ b) → Good ρ0 I0 H0 w0 ρ (zgk I b (0, m * k)) (H.set id (.tail k m)) w) ∧ Conc g ρ (zgk I b (0, m * k)) (H.set id (.tail k m)) w ∧ Mono ρ I w ρ (zgk I b (0, m * k)) w := by
 have live : ∀ (j : Nat) (e3 : Ent), (H.set id (.tail k m))[j]? = some e3 → e3.live = true → ∃ e4 : Ent, H[j]? = some e4 ∧ e4.live = true ∧ (∀ o, z43 e4.frz o → z43 e3.frz o) := by
  intro j e3 hj l3;rcases z17 hj with ⟨rfl, rfl⟩ | ⟨_, h⟩
  ·exact ⟨_, hid, rfl, fun o h => ⟨(0, m * k), by simp [Ent.frz], Nat.zero_le _, hF o h⟩⟩
  ·exact ⟨e3, h, l3, fun _ h => h⟩
 have mutb : ∀ x o, Mut ρ (H.set id (.tail k m)) x o → Mut ρ H x o := by
  rintro x o ⟨j, e3, h1, h2, h3, h4⟩;obtain ⟨e4, k1, k2, k3⟩ := live j e3 h1 h2;exact ⟨j, e4, k1, k2, h3, fun h => h4 (k3 o h)⟩
 have m0 : Mono ρ I w ρ (zgk I b (0, m * k)) w := ⟨fun _ _ h => h, fun _ _ h => ⟨.inl h, rfl⟩, fun _ h => ⟨h, rfl⟩⟩
 refine ⟨fun {ρ0 I0 H0 w0} gd hI => ⟨gd.ext, fun i x hx ⟨e1, h1, h2⟩ => gd.kp i x hx ?_, by simpa using gd.len, fun _ _ h => .inl (gd.imm _ _ h), ?_, gd.os, gd.tape, gd.out, gd.size, gd.cell, gd.block, gd.bs, fun x o hx h => gd.wrt x o hx (mutb x o h), ?_⟩, ⟨fun i h => by simpa using c.dom i h, ?_, c.blt, ?_, ?_, ?_, ?_, ?_⟩, m0⟩
 ·rcases z17 h1 with ⟨rfl, rfl⟩ | ⟨_, h⟩
  ·exact ⟨_, hid, rfl⟩
  ·exact ⟨e1, h, h2⟩
 ·rintro x o hx (h | ⟨rfl, _, h2⟩)
  ·exact gd.imm' x o hx h
  ·by_cases hf : z43 F o
   ·rcases hI o hf with h | h
    ·exact gd.imm' x o hx h
    ·omega
   ·exact .inr (gd.wrt x o hx ⟨id, _, hid, rfl, hb, hf⟩)
 ·rintro x hx ⟨j, e3, h1, h2, h3⟩;obtain ⟨e4, k1, k2, _⟩ := live j e3 h1 h2;exact gd.own x hx ⟨j, e4, k1, k2, h3⟩
 ·intro i h;rcases z17 h with ⟨rfl, h'⟩ | ⟨_, h⟩
  ·simp at h'
  ·exact c.res i h
 ·intro i j x e1 e2 hi l1 hj l2 r1 r2;obtain ⟨e3, k1, k2, _⟩ := live i e1 hi l1;obtain ⟨e4, k3, k4, _⟩ := live j e2 hj l2;exact c.inj i j x e3 e4 k1 k2 k3 k4 r1 r2
 ·intro i cs f h;rcases z17 h with ⟨rfl, h'⟩ | ⟨_, h⟩
  ·simp at h'
  ·obtain ⟨b1, el1, fr1, us, k1, k2, k3, k4⟩ := c.blk i cs f h;exact ⟨b1, el1, fr1, us, k1, k2, z15 m0 _ _ k3, k4⟩
 ·intro i e1 h hg1;rcases z17 h with ⟨rfl, rfl⟩ | ⟨_, h⟩
  ·obtain ⟨_, h⟩ := c.grow i _ hid rfl;refine ⟨trivial, ?_⟩;rcases h with ⟨h, _⟩ | ⟨b1, el1, fr1, us, rest, k1, k2, k3, k4⟩
   ·rw [hb] at h; simp at h
   ·exact .inr ⟨b1, el1, fr1, [], us ++ rest, k1, k2, rfl, k4⟩
  ·obtain ⟨k0, h⟩ := c.grow i e1 h hg1;refine ⟨k0, ?_⟩;rcases h with k | ⟨b1, el1, fr1, us, rest, k1, k2, k3, k4⟩
   ·exact .inl k
   ·exact .inr ⟨b1, el1, fr1, us, rest, k1, k2, z15 m0 _ _ k3, k4⟩
 ·rintro x o (hx | ⟨rfl, h1, h2⟩)
  ·obtain ⟨k1, k2⟩ := c.imm x o hx;exact ⟨k1, fun h => k2 (mutb x o h)⟩
  ·refine ⟨c.blt id x hb, ?_⟩;rintro ⟨j, e3, k1, k2, k3, k4⟩;rcases z17 k1 with ⟨rfl, rfl⟩ | ⟨hne, h⟩
   ·exact k4 ⟨(0, m * k), by simp [Ent.frz], h1, h2⟩
   ·exact hne (c.inj j id x e3 _ h k2 hid rfl k3 hb)
 ·intro gl cs h;obtain ⟨us, k1, k2⟩ := c.glob gl cs h;exact ⟨us, z4q m0 k1, k2.mono m0.imm⟩
theorem ztv (c : Conc g ρ I H w) {id k m : Nat} {f : Nat → List AV} {F : List (Nat × Nat)} (hid : H[id]? = some (.grow k (z1i m f) F)) (hF : ∀ o, z43 F o → o < m * k) (hk : k ≠ 0)
  (ho : ∀ i, i < m → okL (f i) = true) {v : Value} (hv : slR ρ w id 0 k m v) {ρ0 : Rho} {I0 : Imm} {H0 : Heap} {w0 : World} (gd : Good ρ0 I0 H0 w0 ρ I H w) (hI : ∀ o b, ρ id = some (some b) → z43 F o → I b o ∨ w0.heap.size ≤ b) :
  ∃ I', Good ρ0 I0 H0 w0 ρ I' (H.set id (.tail k m)) w ∧ Conc g ρ I' (H.set id (.tail k m)) w ∧ Mono ρ I w ρ I' w ∧ rel ρ I' w (.slv id k m f) v := by
 obtain ⟨hev, hg⟩ := c.grow id _ hid rfl;have hev : ∀ a ∈ z1i m f, szA a = k := hev;rcases hg with ⟨g1, g2⟩ | ⟨b, el, fr, us, rest, g1, g2, g3, g4⟩
 ·have hm : m = 0 := by
   have : ∀ l : List AV, (∀ a ∈ l, szA a = k) → szL l = l.length * k := by
    intro l
    induction l with
    | nil => intro _; simp [szL]
    | cons a as ih => intro h; rw [szL, h a (by simp), ih (fun b hb => h b (by simp [hb])), List.length_cons, Nat.add_mul, Nat.one_mul, Nat.add_comm]
   have h2 := this _ hev;rw [show szL (z1i m f) = 0 from g2, z4z] at h2
   rcases Nat.mul_eq_zero.1 h2.symm with h | h
   ·exact h
   ·exact absurd h hk
  subst hm;have live : ∀ (j : Nat) (e3 : Ent), (H.set id (.tail k 0))[j]? = some e3 → e3.live = true → ∃ e4 : Ent, H[j]? = some e4 ∧ e4.live = true ∧ (j ≠ id → e4 = e3) := by
   intro j e3 hj l3;rcases z17 hj with ⟨rfl, rfl⟩ | ⟨hne, h⟩
   ·exact ⟨_, hid, rfl, fun h => absurd rfl h⟩
   ·exact ⟨e3, h, l3, fun _ => rfl⟩
  have mutb : ∀ x o, Mut ρ (H.set id (.tail k 0)) x o → Mut ρ H x o := by
   rintro x o ⟨j, e3, h1, h2, h3, h4⟩;obtain ⟨e4, k1, k2, k3⟩ := live j e3 h1 h2;have hne : j ≠ id := by rintro rfl; rw [g1] at h3; simp at h3
   exact ⟨j, e4, k1, k2, h3, by rw [k3 hne]; exact h4⟩
  refine ⟨I, ⟨gd.ext, fun i x hx ⟨e1, h1, h2⟩ => gd.kp i x hx ?_, by simpa using gd.len, gd.imm, gd.imm', gd.os, gd.tape, gd.out, gd.size, gd.cell, gd.block, gd.bs, fun x o hx h => gd.wrt x o hx (mutb x o h), ?_⟩,
   ⟨fun i h => by simpa using c.dom i h, ?_, c.blt, ?_, ?_, ?_, fun x o h => ⟨(c.imm x o h).1, fun hm => (c.imm x o h).2 (mutb x o hm)⟩, c.glob⟩, Mono.z1lu, ?_⟩
  ·rcases z17 h1 with ⟨rfl, rfl⟩ | ⟨_, h⟩
   ·exact ⟨_, hid, rfl⟩
   ·exact ⟨e1, h, h2⟩
  ·rintro x hx ⟨j, e3, h1, h2, h3⟩;obtain ⟨e4, k1, k2, _⟩ := live j e3 h1 h2;exact gd.own x hx ⟨j, e4, k1, k2, h3⟩
  ·intro i h;rcases z17 h with ⟨rfl, h'⟩ | ⟨_, h⟩
   ·simp at h'
   ·exact c.res i h
  ·intro i j x e1 e2 hi l1 hj l2 r1 r2;obtain ⟨e3, k1, k2, _⟩ := live i e1 hi l1;obtain ⟨e4, k3, k4, _⟩ := live j e2 hj l2;exact c.inj i j x e3 e4 k1 k2 k3 k4 r1 r2
  ·intro i cs f h;rcases z17 h with ⟨rfl, h'⟩ | ⟨_, h⟩
   ·simp at h'
   ·exact c.blk i cs f h
  ·intro i e1 h hg1;rcases z17 h with ⟨rfl, rfl⟩ | ⟨_, h⟩
   ·exact ⟨trivial, .inl ⟨g1, rfl⟩⟩
   ·exact c.grow i e1 h hg1
  ·refine z2r.2 ⟨z1j.2 ⟨ho, [], by simp, fun i hi => absurd hi (Nat.not_lt_zero _), ?_⟩, hv⟩
   rcases hv with ⟨b, cap, h1, _⟩ | ⟨_, a, rfl⟩
   ·rw [g1] at h1; simp at h1
   ·exact ⟨a, 0, rfl, Nat.le_refl _, by simp, .inl rfl⟩
 ·obtain ⟨t1, t2, t3⟩ := z1dh c hid g1 hF;refine ⟨_, t1 gd (fun o h => hI o b g1 h), t2, t3, z2r.2 ⟨z1j.2 ⟨ho, us, (z9o hev g3).1, fun i hi => z15 t3 _ _ ((z9o hev g3).2 i hi), ?_⟩, hv.mono t3⟩⟩
  rcases hv with ⟨b2, cap, h1, rfl, h3, h4, h5⟩ | ⟨h0, a, rfl⟩
  ·rw [g1] at h1;simp only [Option.some.injEq] at h1;subst h1;refine ⟨_, cap, rfl, h3, by simp, .inr ⟨b, 0, rfl, h4, fun i x hx => ?_⟩⟩
   have hi := (List.getElem?_eq_some_iff.1 hx).1;rw [Nat.zero_add];refine ⟨by rw [cell_of_heap g2, List.getElem?_append_left hi]; exact hx, .inr ⟨rfl, Nat.zero_le _, ?_⟩⟩
   rw [← (z9o hev g3).1]; exact hi
  ·subst h0;exact ⟨a, 0, rfl, Nat.le_refl _, by simp, .inl rfl⟩
theorem z1gw (c : Conc g ρ I H w) {id k n : Nat} {f : Nat → List AV} (hid : H[id]? = some (.tail k n)) {v : Value} (hv : rel ρ I w (.slv id k n f) v) :
  Good ρ I H w ρ I (H.set id (.grow k (z1i n f) [(0, n * k)])) w ∧ Conc g ρ I (H.set id (.grow k (z1i n f) [(0, n * k)])) w ∧ (∀ o b, ρ id = some (some b) → o < n * k → I b o) := by
 obtain ⟨h1, h2⟩ := z2r.1 hv;obtain ⟨ho, vs, hl, hr, hvec⟩ := z1j.1 h1;obtain ⟨hrl, hev⟩ := z9f hl hr;have live : ∀ (j : Nat) (e3 : Ent), (H.set id (.grow k (z1i n f) [(0, n * k)]))[j]? = some e3 → e3.live = true → ∃ e4 : Ent, H[j]? = some e4 ∧ e4.live = true ∧ e4.frz = e3.frz := by
  intro j e3 hj l3;rcases z17 hj with ⟨rfl, rfl⟩ | ⟨_, h⟩
  ·exact ⟨_, hid, rfl, rfl⟩
  ·exact ⟨e3, h, l3, rfl⟩
 have mutb : ∀ x o, Mut ρ (H.set id (.grow k (z1i n f) [(0, n * k)])) x o → Mut ρ H x o := by
  rintro x o ⟨j, e3, h1, h2, h3, h4⟩;obtain ⟨e4, k1, k2, k3⟩ := live j e3 h1 h2;exact ⟨j, e4, k1, k2, h3, by rw [k3]; exact h4⟩
 have lies : ∀ b, ρ id = some (some b) → 0 < n * k → b < w.heap.size ∧ Lies I w b 0 vs := by
  intro b hb hpos;have hn : n ≠ 0 := by rintro rfl; simp at hpos
  rcases h2 with ⟨b2, cap, q1, rfl, q3, q4, q5⟩ | ⟨q, _⟩
  ·rw [hb] at q1;simp only [Option.some.injEq] at q1;subst q1;obtain ⟨a, cap', e1, e2, _, e4⟩ := hvec;simp only [Value.slice.injEq] at e1;obtain ⟨rfl, _, _⟩ := e1;rcases e4 with e4 | ⟨b', off, e5, e6, e7⟩
   ·exact absurd e4 hn
   ·simp only [Option.some.injEq, Addr.mk.injEq] at e5;obtain ⟨rfl, rfl, _⟩ := e5;exact ⟨e6, e7⟩
  ·exact absurd q hn
 refine ⟨⟨fun _ _ h => h, ?_, by simp, fun _ _ h => h, fun _ _ _ h => .inl h, rfl, rfl, rfl, Nat.le_refl _, fun _ _ _ _ => rfl, fun _ _ _ => rfl, fun _ _ => rfl, fun x o _ h => mutb x o h, ?_⟩,
  ⟨fun i h => by simpa using c.dom i h, ?_, c.blt, ?_, ?_, ?_, fun x o h => ⟨(c.imm x o h).1, fun hm => (c.imm x o h).2 (mutb x o hm)⟩, c.glob⟩, ?_⟩
 ·rintro i x _ ⟨e1, h1, h2⟩;rcases z17 h1 with ⟨rfl, rfl⟩ | ⟨_, h⟩
  ·exact ⟨_, hid, rfl⟩
  ·exact ⟨e1, h, h2⟩
 ·rintro x _ ⟨j, e3, h1, h2, h3⟩;obtain ⟨e4, k1, k2, _⟩ := live j e3 h1 h2;exact ⟨j, e4, k1, k2, h3⟩
 ·intro i h;rcases z17 h with ⟨rfl, h'⟩ | ⟨_, h⟩
  ·simp at h'
  ·exact c.res i h
 ·intro i j x e1 e2 hi l1 hj l2 r1 r2;obtain ⟨e3, k1, k2, _⟩ := live i e1 hi l1;obtain ⟨e4, k3, k4, _⟩ := live j e2 hj l2;exact c.inj i j x e3 e4 k1 k2 k3 k4 r1 r2
 ·intro i cs f h;rcases z17 h with ⟨rfl, h'⟩ | ⟨_, h⟩
  ·simp at h'
  ·exact c.blk i cs f h
 ·intro i e1 h hg1;rcases z17 h with ⟨rfl, rfl⟩ | ⟨_, h⟩
  ·obtain ⟨_, hg⟩ := c.grow i _ hid rfl;refine ⟨hev, ?_⟩;rcases hg with ⟨k1, _⟩ | ⟨b, el, fr, us, rest, k1, k2, k3, k4⟩
   ·have hn : n = 0 := by
     rcases h2 with ⟨b2, cap, q1, _⟩ | ⟨q, _⟩
     ·rw [k1] at q1; simp at q1
     ·exact q
    subst hn;exact .inl ⟨k1, rfl⟩
   ·cases k3;rcases Nat.eq_zero_or_pos (n * k) with hz | hpos
    ·have : vs = [] := List.eq_nil_of_length_eq_zero (by rw [hl]; exact hz)
     subst this;exact .inr ⟨b, el, fr, [], rest, k1, k2, hrl, k4⟩
    ·obtain ⟨l1, l2⟩ := lies b k1 hpos;have hpre : rest = vs ++ rest.drop vs.length := by
      have : rest.take vs.length = vs := by
       apply List.ext_getElem?;intro i;rcases Nat.lt_or_ge i vs.length with hi | hi
       ·rw [List.getElem?_take, if_pos hi, List.getElem?_eq_getElem hi];have := (l2 i _ (List.getElem?_eq_getElem hi)).1;rw [Nat.zero_add, cell_of_heap k2, List.nil_append] at this;exact this
       ·rw [List.getElem?_take, if_neg (by omega), List.getElem?_eq_none hi]
      exact (List.take_append_drop vs.length rest).symm.trans (by rw [this])
     refine .inr ⟨b, el, fr, vs, rest.drop vs.length, k1, ?_, hrl, ?_⟩
     ·rw [← hpre]; exact k2
     ·rw [← hpre]; exact k4
  ·exact c.grow i e1 h hg1
 ·intro o b hb ho';obtain ⟨_, l2⟩ := lies b hb (by omega)
  have := (l2 o _ (List.getElem?_eq_getElem (by rw [hl]; exact ho'))).2
  rwa [Nat.zero_add] at this
end
section
variable {P : Program} (G : Env P)
def zou (tix : TI) (H : Heap) (x : AV) : Option (Nat × Bool × Nat × (Nat → List AV)) :=
 match tix.kind with
 | .slice _ => match x with
  | .vec _ k rows => some (k, rows.all fun r => okL r.cells, rows.length, z4v rows)
  | .vecr _ k n f => some (k, true, n, f)
  | .slv _ k n f => some (k, true, n, f)
  | .sl id off k len => match H[id]? with
   | some (.grow k' rows _) => some (k, ((k == k' && off == 0) && len == rows.length) && rows.all fun r => okL r.cells, rows.length, z4v rows)
   | _ => none
  | _ => none
 | _ => none
def zpz (te : TI) (H : Heap) (nid : Nat) (s : AV) (m : Nat) (g : Nat → List AV) : Option Eff :=
 match s with
 | .vec full k l => some (.ck ((full && k == te.size) && l.isEmpty) (.ck (leB (m * te.bytes) 140737488355328) (.one true (.slv nid te.size m g) [(nid, .tail te.size m)])))
 | .vec8 full l => some (.ck (full && l.isEmpty) (.ck (leB (m * te.bytes) 140737488355328) (.one true (.slv nid te.size m g) [(nid, .tail te.size m)])))
 | .slv id k n f => match H[id]? with
  | some (.tail k' n') => some (.ck (k == te.size && k' == te.size) (.ck (n == n') (.ck (leB ((n + m) * te.bytes) 140737488355328)
    (.one true (.slv nid te.size (n + m) (zdi n f g)) [(nid, .tail te.size (n + m)), (id, .dead)]))))
  | _ => none
 | _ => none
def isV (s x : AV) : Bool := match s with
 | .slv _ _ _ _ => true
 | .vec _ _ _ => (match x with
  | .vecr _ _ _ _ => true
  | .slv _ _ _ _ => true
  | _ => false)
 | .vec8 _ _ => (match x with
  | .vecr _ _ _ _ => true
  | .slv _ _ _ _ => true
  | _ => false)
 | _ => false
def zcl (t tx : Nat) (H : Heap) (nid : Nat) (s x : AV) : Option Eff :=
 bif isV s x then (match G.ty t, G.ty tx with
 | some ti, some tix => match ti.kind with
  | .slice e => match G.ty e with
   | some te => match te.zero with
    | some z => match zou tix H x with
     | some (k, c, m, g) => match zpz te H nid s m g with
      | some E => some (.ck (z34 H nid && (z6z te z && k == te.size)) (.ck c E))
      | none => none
     | none => none
    | none => none
   | none => none
  | _ => none
 | _, _ => none) else none
def zb4 (op : Op) (ev : Operand → AV) (H : Heap) (nid : Nat) : Option Eff :=
 match op with
 | .call c => match c.callee with
  | .builtin .append => match c.args.toList, c.argTypes.toList with
   | [s, x], [t, tx] => zcl G t tx H nid (ev s) (ev x)
   | _, _ => none
  | _ => none
 | _ => none
end
section
variable {P : Program} {G : Env P} {ρ : Rho} {I : Imm} {H : Heap} {w : World}
theorem z13h {rows : List AV} (h : (rows.all fun r => okL r.cells) = true) : ∀ i, i < rows.length → okL (z4v rows i) = true := by
 intro i hi;rw [List.all_eq_true] at h;have := h rows[i] (List.getElem_mem hi);simpa [z4v, hi] using this
theorem zdn {n : Nat} {f : Nat → List AV} (h : ∀ i, i < n → okL (f i) = true) : z7e (z1i n f) = true := by
 have : ∀ l : List AV, (∀ a ∈ l, zbq a = true) → z7e l = true := by
  intro l
  induction l with
  | nil => intro _; rfl
  | cons a as ih => intro h; simp [z7e, h a (by simp), ih (fun b hb => h b (by simp [hb]))]
 refine this _ fun a ha => ?_
 obtain ⟨i, hi, rfl⟩ := List.mem_map.1 ha;simpa [zbq] using zg2 (h i (List.mem_range.1 hi))
theorem z10r (c : Conc G.g ρ I H w) {tx : Nat} {tix : TI} (htx : G.ty tx = some tix) {x : AV} {vx : Value} (r : rel ρ I w x vx) {k m : Nat} {p : Bool} {f : Nat → List AV} (h : zou tix H x = some (k, p, m, f)) (hp : p = true) :
  ∃ vs, RL ρ I w (z1i m f) vs ∧ (∀ a ∈ z1i m f, szA a = k) ∧ (∀ i, i < m → okL (f i) = true) ∧ Src P k tx vx m vs w := by
 obtain ⟨j, d, _, q2, _, _, q5, _⟩ := z1a htx;unfold zou at h
 split at h
 ·rename_i e' hk;rw [hk] at q5;obtain rfl := TK.of_slice q5
  split at h
  ·rename_i full k' rows';simp only [Option.some.injEq, Prod.mk.injEq] at h;obtain ⟨rfl, rfl, rfl, rfl⟩ := h;obtain ⟨hsz, vs, hr, a, cap, rfl, h2, _, h4⟩ := z2h.1 r;obtain ⟨r1, r2⟩ := zkt hsz hr;have ho := z13h hp;refine ⟨vs, r1, r2, ho, src_of q2 (zcj hsz hr) (h4.imp id ?_) (z47 _ _ r1 (zdn ho))⟩;rintro ⟨b, off, rfl, _, hl⟩;exact ⟨b, off, rfl, fun i x hx => (hl i x hx).1⟩
  ·rename_i full k' n f';simp only [Option.some.injEq, Prod.mk.injEq] at h;obtain ⟨rfl, _, rfl, rfl⟩ := h;obtain ⟨ho, vs, hvl, hr, a, cap, rfl, h2, _, h4⟩ := z1j.1 r;obtain ⟨r1, r2⟩ := z9f hvl hr;refine ⟨vs, r1, r2, ho, src_of q2 hvl (h4.imp id ?_) (z47 _ _ r1 (zdn ho))⟩;rintro ⟨b, off, rfl, _, hl⟩;exact ⟨b, off, rfl, fun i x hx => (hl i x hx).1⟩
  ·rename_i ix k' n f';simp only [Option.some.injEq, Prod.mk.injEq] at h;obtain ⟨rfl, _, rfl, rfl⟩ := h;obtain ⟨ho, vs, hvl, hr, a, cap, rfl, h2, _, h4⟩ := z1j.1 (z2r.1 r).1;obtain ⟨r1, r2⟩ := z9f hvl hr;refine ⟨vs, r1, r2, ho, src_of q2 hvl (h4.imp id ?_) (z47 _ _ r1 (zdn ho))⟩;rintro ⟨b, off, rfl, _, hl⟩;exact ⟨b, off, rfl, fun i x hx => (hl i x hx).1⟩
  ·rename_i ix off k' len
   split at h
   ·rename_i k2 rows' fz hid;simp only [Option.some.injEq, Prod.mk.injEq] at h;obtain ⟨rfl, rfl, rfl, rfl⟩ := h;simp only [Bool.and_eq_true, beq_iff_eq] at hp;obtain ⟨⟨⟨rfl, rfl⟩, rfl⟩, hp⟩ := hp;obtain ⟨hev, hg⟩ := c.grow ix _ hid rfl;have hev' : ∀ a ∈ rows', szA a = k' := hev;have ho := z13h hp;rcases z2j.1 r with ⟨bl, cap, h1, rfl, h3, h4, h5⟩ | ⟨h0, a, rfl⟩
    ·rcases hg with ⟨g1, _⟩ | ⟨b', el, fr, us, rest, g1, g2, g3, g4⟩
     ·rw [g1] at h1; simp at h1
     ·rw [g1] at h1;simp only [Option.some.injEq] at h1;subst h1;obtain ⟨r1, r2⟩ := zkt hev' g3;refine ⟨_, r1, r2, ho, src_of q2 (zcj hev' g3) (.inr ⟨b', 0, rfl, fun i x hx => ?_⟩) (z47 _ _ r1 (zdn ho))⟩
      rw [Nat.zero_add, cell_of_heap g2, List.getElem?_append_left (List.getElem?_eq_some_iff.1 hx).1];exact hx
    ·have : rows' = [] := List.eq_nil_of_length_eq_zero h0;subst this;exact ⟨[], by simp [z1i, RL], by simp [z1i], fun i hi => absurd hi (Nat.not_lt_zero _), by simpa using src_of (w := w) (vs := []) q2 (by simp) (.inl rfl) (by simp)⟩
   ·simp at h
  ·simp at h
 ·simp at h
def znk (P : Program) (g : Nat → Option (List AV)) (ρ : Rho) (I : Imm) (H : Heap) (w : World) (t tx ty : Nat) (vs vx : Value) (v : AV) (u : List (Nat × Ent)) : Prop :=
 ∃ v' w' ρ' I', (Builtin.append_ #[t, tx] ty #[vs, vx]).run P w = .ok v' w' ∧ Good ρ I H w ρ' I' (zm H u) w' ∧ Conc g ρ' I' (zm H u) w' ∧ Mono ρ I w ρ' I' w' ∧ rel ρ' I' w' v v'
theorem zwr (c : Conc G.g ρ I H w) {nid : Nat} (hn : H[nid]? = some .res) {t tx ty e : Nat} {te : TI} (ht : P.underlying t = some (.slice e)) (hte : G.ty e = some te) {z : AV} (hz : te.zero = some z) (hok : z6z te z = true)
  {vs vx : Value} (hv : vecR I w true 0 [] vs) {m : Nat} {f : Nat → List AV} {news : List Value} (hr : RL ρ I w (z1i m f) news) (hk : ∀ a ∈ z1i m f, szA a = te.size) (ho : ∀ i, i < m → okL (f i) = true) (hs : Src P te.size tx vx m news w)
  (hb : m * te.bytes ≤ 140737488355328) : znk P G.g ρ I H w t tx ty vs vx (.slv nid te.size m f) [(nid, .tail te.size m)] := by
 obtain ⟨j, zv, hj, hjs, hjb, hb0, hs0, hjz, hzs, _, _⟩ := z84 hte hz hok;have hlt : nid < H.length := (List.getElem?_eq_some_iff.1 hn).1;obtain ⟨v', w', ρ', k1, k2, k3, k4, k5⟩ := zco (ty := ty) (ent := .grow te.size (z1i m f) []) (n := m) c hn ht hj hjz hzs hb0 hv rfl (by simp) (by rw [hjs]; exact hs) (by rw [hjb]; simpa using hb) rfl hk (by simpa [Ent.cells] using hr) (.inr rfl)
 rw [hjs, Nat.zero_add] at k5;have hid : (zm H [(nid, Ent.grow te.size (z1i m f) [])])[nid]? = some (.grow te.size (z1i m f) []) := by simp [zm, hlt]
 obtain ⟨I', t1, t2, t3, t4⟩ := ztv k3 hid (fun o h => by obtain ⟨_, h, _⟩ := h; simp at h) (ze6 hok).2.2.2 ho (z2j.1 k5) k2 (fun o b _ h => by obtain ⟨_, h, _⟩ := h; simp at h)
 have hset : (zm H [(nid, Ent.grow te.size (z1i m f) [])]).set nid (.tail te.size m) = zm H [(nid, .tail te.size m)] := by simp [zm, List.set_set]
 rw [hset] at t1 t2;exact ⟨v', w', ρ', I', k1, t1, t2, k4.trans' t3, t4⟩
theorem z10l (c : Conc G.g ρ I H w) {nid : Nat} (hn : H[nid]? = some .res) {t tx ty e : Nat} {te : TI} (ht : P.underlying t = some (.slice e)) (hte : G.ty e = some te) {z : AV} (hz : te.zero = some z) (hok : z6z te z = true) {s : AV} {vs vx : Value} (r : rel ρ I w s vs)
  {m : Nat} {f : Nat → List AV} {news : List Value} (hr : RL ρ I w (z1i m f) news) (hk : ∀ a ∈ z1i m f, szA a = te.size) (ho : ∀ i, i < m → okL (f i) = true) (hs : Src P te.size tx vx m news w)
  {E : Eff} {v : AV} {u : List (Nat × Ent)} (h : zpz te H nid s m f = some E) (hh : E.has v u) : znk P G.g ρ I H w t tx ty vs vx v u := by
 unfold zpz at h
 split at h
 ·rename_i full k l;simp only [Option.some.injEq] at h;subst h;obtain ⟨hc, hle, _, rfl, rfl⟩ := hh;simp only [Bool.and_eq_true, beq_iff_eq, List.isEmpty_iff] at hc;obtain ⟨⟨rfl, rfl⟩, rfl⟩ := hc;obtain ⟨_, ws, hw, hv⟩ := z2h.1 r;cases hw;exact zwr c hn ht hte hz hok hv hr hk ho hs (zh.1 hle)
 ·rename_i full l;simp only [Option.some.injEq] at h;subst h;obtain ⟨hc, hle, _, rfl, rfl⟩ := hh;simp only [Bool.and_eq_true, List.isEmpty_iff] at hc;obtain ⟨rfl, rfl⟩ := hc;exact zwr c hn ht hte hz hok (z22.1 r) hr hk ho hs (zh.1 hle)
 ·rename_i id k n f0
  split at h
  ·rename_i k' n' hid;simp only [Option.some.injEq] at h;subst h;obtain ⟨hc, hnn, hle, _, rfl, rfl⟩ := hh;simp only [Bool.and_eq_true, beq_iff_eq] at hc hnn;obtain ⟨rfl, rfl⟩ := hc;subst hnn;obtain ⟨j, zv, hj, hjs, hjb, hb0, hs0, hjz, hzs, _, _⟩ := z84 hte hz hok;have hlt : nid < H.length := (List.getElem?_eq_some_iff.1 hn).1;have hlt' : id < H.length := (List.getElem?_eq_some_iff.1 hid).1;have hne : id ≠ nid := by rintro rfl; rw [hid] at hn; simp at hn
   obtain ⟨g1, c1, hI⟩ := z1gw c hid r;obtain ⟨rv, rs⟩ := z2r.1 r;have hid1 : (H.set id (.grow te.size (z1i n f0) [(0, n * te.size)]))[id]? = some (.grow te.size (z1i n f0) [(0, n * te.size)]) := by simp [hlt']
   have hn1 : (H.set id (.grow te.size (z1i n f0) [(0, n * te.size)]))[nid]? = some .res := by rw [List.getElem?_set_ne hne]; exact hn
   obtain ⟨hev0, _⟩ := c1.grow id _ hid1 rfl;have hev0 : ∀ a ∈ z1i n f0, szA a = te.size := hev0;have hcat := z15u n m f0 f;obtain ⟨v', w', ρ', k1, k2, k3, k4, k5, k6⟩ := zgz (ty := ty) (len := n) (n := m) (e0 := .grow te.size (z1i n f0) [(0, n * te.size)]) (ent := .grow te.size (z1i (n + m) (zdi n f0 f)) [(0, n * te.size)]) c1 hn1 hid1 rfl ht hj hjz hzs hb0 (by rw [hjs]; exact rs)
    (by
     show szL (z1i n f0) = n * j.size;rw [hjs];have : ∀ l : List AV, (∀ a ∈ l, szA a = te.size) → szL l = l.length * te.size := by
      intro l
      induction l with
      | nil => intro _; simp [szL]
      | cons a as ih => intro h; rw [szL, h a (by simp), ih (fun b hb => h b (by simp [hb])), List.length_cons, Nat.add_mul, Nat.one_mul, Nat.add_comm]
     rw [this _ hev0, z4z])
    (by rw [hjs]; exact hs) (by rw [hjb]; exact zh.1 hle) rfl (by
     show ∀ a ∈ z1i (n + m) (zdi n f0 f), szA a = te.size;rw [hcat];exact fun a ha => (List.mem_append.1 ha).elim (hev0 a) (hk a)) rfl (by
     intro cs hcs;show RL ρ I w (z1i (n + m) (zdi n f0 f)) _;rw [hcat];rcases hcs with hcs | ⟨h0, rfl⟩
     ·exact z7j hcs hr
     ·subst h0;simpa [z1i] using hr) (by
     rintro o ⟨r0, h1, _, h2⟩;simp only [Ent.frz, List.mem_singleton] at h1;subst h1;rw [hjs];exact h2)
   rw [hjs] at k5;have hset1 : ∀ e1, zm (H.set id (.grow te.size (z1i n f0) [(0, n * te.size)])) [(nid, e1), (id, .dead)] = zm H [(nid, e1), (id, .dead)] := by
    intro e1;show ((H.set id _).set nid e1).set id .dead = (H.set nid e1).set id .dead;rw [List.set_comm _ _ hne, List.set_set]
   rw [hset1] at k2 k3;have hid2 : (zm H [(nid, Ent.grow te.size (z1i (n + m) (zdi n f0 f)) [(0, n * te.size)]), (id, .dead)])[nid]? = some (.grow te.size (z1i (n + m) (zdi n f0 f)) [(0, n * te.size)]) := by
    show ((H.set nid _).set id .dead)[nid]? = _;rw [List.getElem?_set_ne hne];simp [hlt]
   obtain ⟨hof, _⟩ := z1j.1 rv;obtain ⟨I', t1, t2, t3, t4⟩ := ztv k3 hid2 (fun o h => by
    obtain ⟨r0, h1, _, h2⟩ := h;simp only [List.mem_singleton] at h1;subst h1;have : n * te.size ≤ (n + m) * te.size := Nat.mul_le_mul_right _ (by omega)
    simp only at h2;omega) (ze6 hok).2.2.2 (fun i hi => by
     unfold zdi;cases hb : ltB i n with
     | true => exact hof i (z1z.1 hb)
     | false =>
      have : ¬ i < n := fun h => by rw [z1z.2 h] at hb; simp at hb
      exact ho (i - n) (by omega)) (z2j.1 k5) (g1.trans k2) (fun o b hb h => by
     obtain ⟨r0, h1, _, h2⟩ := h;simp only [List.mem_singleton] at h1;subst h1;rcases k6 b hb with h | h
     ·exact .inl (hI o b h h2)
     ·exact .inr h)
   have hset2 : (zm H [(nid, Ent.grow te.size (z1i (n + m) (zdi n f0 f)) [(0, n * te.size)]), (id, .dead)]).set nid (.tail te.size (n + m)) = zm H [(nid, .tail te.size (n + m)), (id, .dead)] := by
    show ((H.set nid _).set id .dead).set nid _ = (H.set nid _).set id .dead;rw [List.set_comm _ _ hne, List.set_set]
   rw [hset2] at t1 t2;exact ⟨v', w', ρ', I', k1, t1, t2, k4.trans' t3, t4⟩
  ·simp at h
 ·simp at h
theorem zrp (c : Conc G.g ρ I H w) {t tx ty nid : Nat} {s x : AV} {vs vx : Value} (rs : rel ρ I w s vs) (rx : rel ρ I w x vx) {E : Eff} {v : AV} {u : List (Nat × Ent)} (h : zcl G t tx H nid s x = some E) (hh : E.has v u) : znk P G.g ρ I H w t tx ty vs vx v u := by
 unfold zcl at h;cases hv : isV s x with
 | false => rw [hv] at h; simp at h
 | true =>
 rw [hv] at h;simp only [cond_true] at h
 split at h
 ·rename_i ti tix hti htix;obtain ⟨j, d, _, q2, _, _, q5, _⟩ := z1a hti
  split at h
  ·rename_i e hk;rw [hk] at q5;obtain rfl := TK.of_slice q5
   split at h
   ·rename_i te hte
    split at h
    ·rename_i z hz
     split at h
     ·rename_i k p m f hsrc
      split at h
      ·rename_i E' hE;simp only [Option.some.injEq] at h;subst h;obtain ⟨h1, h2, h3⟩ := hh;simp only [Bool.and_eq_true, beq_iff_eq] at h1;obtain ⟨h1, h4, rfl⟩ := h1;obtain ⟨ws, r1, r2, r3, r4⟩ := z10r c htix rx hsrc h2;exact z10l c (z7f h1) q2 hte hz h4 rs r1 r2 r3 r4 hE h3
      ·simp at h
     ·simp at h
    ·simp at h
   ·simp at h
  ·simp at h
 ·simp at h
theorem zdh (c : Conc G.g ρ I H w) (ev : Operand → AV) (e : Operand → Value) (r : ∀ x, rel ρ I w (ev x) (e x)) (o : Oper) (nid : Nat) (E : Eff) (v : AV) (u : List (Nat × Ent)) (h : zb4 G o.op ev H nid = some E) (hh : E.has v u) :
  EffOk G ρ I H w ((execOp e o).run P w) v u := by
 unfold zb4 at h
 split at h
 ·rename_i cl hop
  split at h
  ·rename_i hfo
   split at h
   ·rename_i s x t tx ha ht;have hargs : cl.args.map e = #[e s, e x] := by
     apply Array.toList_inj.1;simp [ha]
    have hat : cl.argTypes = #[t, tx] := by
     apply Array.toList_inj.1;simp [ht]
    refine EffOk.z1lw (s := Builtin.append_ #[t, tx] o.type #[e s, e x]) (fun y w' h => ?_) (zrp c (r s) (r x) h hh)
    rw [z3r hop hfo, hargs, hat];simp [builtin, h]
   ·simp at h
  ·simp at h
 ·simp at h
theorem z100 {tix : TI} {x : AV} {H' : Heap} (hr : ∀ id ∈ z1p x, H'[id]? = H[id]?) : zou tix H' x = zou tix H x := by
 cases x <;> simp only [z1p, List.mem_singleton, forall_eq] at hr <;> simp [zou, hr]
theorem z12b {te : TI} {nid : Nat} {s : AV} {m : Nat} {f : Nat → List AV} {H' : Heap} (hr : ∀ id ∈ z1p s, H'[id]? = H[id]?) : zpz te H' nid s m f = zpz te H nid s m f := by
 cases s <;> simp only [z1p, List.mem_singleton, forall_eq] at hr <;> simp [zpz, hr]
theorem zru {t tx nid : Nat} {s x : AV} {H' : Heap} (h0 : H'[nid]? = H[nid]?) (h1 : ∀ id ∈ z1p s, H'[id]? = H[id]?) (h2 : ∀ id ∈ z1p x, H'[id]? = H[id]?) : zcl G t tx H' nid s x = zcl G t tx H nid s x := by
 simp only [zcl, z100 h2, z12b h1, z5r h0]
theorem zd2 (op : Op) (ev ev' : Operand → AV) (H H' : Heap) (nid : Nat) (he : ∀ x ∈ op.operands, ev' x = ev x) (hr : ∀ id ∈ z1u ev op nid (z3d G op), H'[id]? = H[id]?) : zb4 G op ev' H' nid = zb4 G op ev H nid := by
 cases op with
 | call c =>
  have hm : ∀ x ∈ c.args.toList, ev' x = ev x ∧ ∀ id ∈ z1p (ev x), H'[id]? = H[id]? := fun x hx =>
   have hx' : x ∈ (Op.call c).operands.toList := by simp [Op.operands, Call.operands]; right; simpa using hx
   ⟨he x (by simpa using hx'), fun id hid => hr id (by simp only [z1u]; exact List.mem_append_left _ (z4h hx' hid))⟩
  simp only [zb4]
  split
  ·rename_i hfo;have h0 : H'[nid]? = H[nid]? := hr nid (by simp [z1u, z3d, upTo, hfo])
   split
   ·rename_i s x t tx ha ht;obtain ⟨e1, r1⟩ := hm s (by rw [ha]; simp)
    obtain ⟨e2, r2⟩ := hm x (by rw [ha]; simp)
    rw [e1, e2, zru h0 r1 r2]
   ·rfl
  ·rfl
 | _ => rfl
end
def zua (ρ : Rho) (I : Imm) (id : Nat) (r : Nat × Nat) : Imm := fun x o => I x o ∨ (ρ id = some (some x) ∧ r.1 ≤ o ∧ o < r.2)
section
variable {g : Nat → Option (List AV)} {ρ : Rho} {I : Imm} {H : Heap} {w : World}
theorem zc5 (c : Conc g ρ I H w) {id : Nat} {e : Ent} (hid : H[id]? = some e) (hl : e.live = true) (r : Nat × Nat) (hf : ∀ o, r.1 ≤ o → o < r.2 → ¬ z43 e.frz o) (hnt : ∀ k n, e ≠ .tail k n) :
  Good ρ I H w ρ (zua ρ I id r) (H.set id (e.freeze r)) w ∧ Conc g ρ (zua ρ I id r) (H.set id (e.freeze r)) w ∧ Mono ρ I w ρ (zua ρ I id r) w := by
 have hfl : (e.freeze r).live = true := by cases e <;> simp_all [Ent.freeze, Ent.live]
 have hfz : (e.freeze r).frz = r :: e.frz := by cases e <;> simp_all [Ent.freeze, Ent.live, Ent.frz]
 have hfg : (e.freeze r).grows = e.grows := by cases e <;> rfl
 have hfc : (e.freeze r).cells = e.cells := by cases e <;> rfl
 have live : ∀ (k : Nat) (e3 : Ent), (H.set id (e.freeze r))[k]? = some e3 → e3.live = true → ∃ e4 : Ent, H[k]? = some e4 ∧ e4.live = true ∧ (∀ o, z43 e4.frz o → z43 e3.frz o) := by
  intro k e3 hk l3;rcases z17 hk with ⟨rfl, rfl⟩ | ⟨_, h⟩
  ·exact ⟨e, hid, hl, fun o ⟨r', h1, h2⟩ => by rw [hfz]; exact ⟨r', by simp [h1], h2⟩⟩
  ·exact ⟨e3, h, l3, fun _ h => h⟩
 have mutb : ∀ x o, Mut ρ (H.set id (e.freeze r)) x o → Mut ρ H x o := by
  rintro x o ⟨k, e3, h1, h2, h3, h4⟩;obtain ⟨e4, k1, k2, k3⟩ := live k e3 h1 h2;exact ⟨k, e4, k1, k2, h3, fun h => h4 (k3 o h)⟩
 have hm : ∀ x o, r.1 ≤ o → o < r.2 → ρ id = some (some x) → Mut ρ H x o := fun x o h1 h2 hb => ⟨id, e, hid, hl, hb, hf o h1 h2⟩
 have m : Mono ρ I w ρ (zua ρ I id r) w := ⟨fun _ _ h => h, fun _ _ h => ⟨.inl h, rfl⟩, fun _ h => ⟨h, rfl⟩⟩
 refine ⟨⟨fun _ _ h => h, ?_, by simp, fun _ _ h => .inl h, ?_, rfl, rfl, rfl, Nat.le_refl _, fun _ _ _ _ => rfl, fun _ _ _ => rfl, fun _ _ => rfl, fun x o _ h => mutb x o h, ?_⟩, ⟨fun i h => by simpa using c.dom i h, ?_, c.blt, ?_, ?_, ?_, ?_, ?_⟩, m⟩
 ·rintro i x _ ⟨e1, h1, h2⟩;rcases z17 h1 with ⟨rfl, rfl⟩ | ⟨_, h⟩
  ·exact ⟨e, hid, by rwa [hfg] at h2⟩
  ·exact ⟨e1, h, h2⟩
 ·rintro x o _ (h | ⟨hx, h1, h2⟩)
  ·exact .inl h
  ·exact .inr (hm x o h1 h2 hx)
 ·rintro x _ ⟨k, e3, h1, h2, h3⟩;obtain ⟨e4, k1, k2, _⟩ := live k e3 h1 h2;exact ⟨k, e4, k1, k2, h3⟩
 ·intro i h;rcases z17 h with ⟨rfl, h'⟩ | ⟨_, h⟩
  ·rw [← h'] at hfl; simp [Ent.live] at hfl
  ·exact c.res i h
 ·intro i j x e1 e2 hi l1 hj l2 r1 r2;obtain ⟨e3, k1, k2, _⟩ := live i e1 hi l1;obtain ⟨e4, k3, k4, _⟩ := live j e2 hj l2;exact c.inj i j x e3 e4 k1 k2 k3 k4 r1 r2
 ·intro i cs f h;rcases z17 h with ⟨rfl, h'⟩ | ⟨_, h⟩
  ·cases e <;> simp only [Ent.freeze, Ent.blk.injEq, reduceCtorEq] at h'
   obtain ⟨rfl, _⟩ := h';obtain ⟨b1, el1, fr1, us, k1, k2, k3, k4⟩ := c.blk i _ _ hid;exact ⟨b1, el1, fr1, us, k1, k2, z15 m _ _ k3, k4⟩
  ·obtain ⟨b1, el1, fr1, us, k1, k2, k3, k4⟩ := c.blk i cs f h;exact ⟨b1, el1, fr1, us, k1, k2, z15 m _ _ k3, k4⟩
 ·intro i e1 h hg1;have fin : ∀ e2 : Ent, H[i]? = some e2 → e2.grows = true → e2.cells = e1.cells → (e2.even → e1.even) → e1.even ∧ ((ρ i = some none ∧ szL e1.cells = 0) ∨ ∃ b' el fr cs rest, ρ i = some (some b') ∧ w.heap[b']? = some (.cells (List.toArray (cs ++ rest)) el fr) ∧ RL ρ (zua ρ I id r) w e1.cells cs ∧ clear fr (cs ++ rest).length) := by
   intro e2 h2 g2 hc hev;obtain ⟨k0, k⟩ := c.grow i e2 h2 g2;rw [hc] at k;refine ⟨hev k0, ?_⟩;rcases k with k | ⟨b1, el1, fr1, us, rest, k1, k2, k3, k4⟩
   ·exact .inl k
   ·exact .inr ⟨b1, el1, fr1, us, rest, k1, k2, z15 m _ _ k3, k4⟩
  rcases z17 h with ⟨rfl, rfl⟩ | ⟨_, h⟩
  ·exact fin e hid (by rwa [hfg] at hg1) hfc.symm (fun h => by cases e <;> simp_all [Ent.freeze, Ent.even])
  ·exact fin e1 h hg1 rfl (fun h => h)
 ·rintro x o (hx | ⟨hb, h1, h2⟩)
  ·obtain ⟨k1, k2⟩ := c.imm x o hx;exact ⟨k1, fun h => k2 (mutb x o h)⟩
  ·refine ⟨c.blt id x hb, ?_⟩;rintro ⟨k, e3, k1, k2, k3, k4⟩;rcases z17 k1 with ⟨rfl, rfl⟩ | ⟨hne, h⟩
   ·exact k4 (by rw [hfz]; exact ⟨r, by simp, h1, h2⟩)
   ·exact hne (c.inj k id x e3 e h k2 hid hl k3 hb)
 ·intro gl cs h;obtain ⟨us, k1, k2⟩ := c.glob gl cs h;exact ⟨us, z4q m k1, k2.mono m.imm⟩
end
mutual
def z57 (H : Heap) : AV → AV × List (Nat × Ent)
 | .sl id off k len => match H[id]? with
  | some (.grow8 l f) => bif z2x f off len && (k == 1 && leB (off + len) l.length) then (.vec8 false ((l.drop off).take len), [(id, .grow8 l ((off, off + len) :: f))]) else (.sl id off k len, [])
  | some (.grow k' rows f) => bif z2x f 0 (len * k) && ((k == k' && off == 0) && len == rows.length) then (.vec false k rows, [(id, .grow k' rows ((0, len * k) :: f))]) else (.sl id off k len, [])
  | some (.blk c f) => match z3q H (.sl id off k len) with
   | some (p, l) => bif z2x f off len && p then (.vec8 false l, [(id, .blk c ((off, off + len) :: f))]) else (.sl id off k len, [])
   | none => (.sl id off k len, [])
  | _ => (.sl id off k len, [])
 | .slv _ k n f => (.vecr false k n f, [])
 | .agg l => match z5m H l with
  | (l', u) => (.agg l', u)
 | a => (a, [])
def z5m (H : Heap) : List AV → List AV × List (Nat × Ent)
 | [] => ([], [])
 | a :: as => match z57 H a with
  | (a', u) => match z5m (zm H u) as with
   | (as', u') => (a' :: as', u ++ u')
end
section
variable {g : Nat → Option (List AV)} {ρ : Rho} {I : Imm} {H : Heap} {w : World}
def FrzOk (g : Nat → Option (List AV)) (ρ : Rho) (I : Imm) (H : Heap) (w : World) (u : List (Nat × Ent)) (ok : Imm → Prop) : Prop :=
 ∃ I', Good ρ I H w ρ I' (zm H u) w ∧ Conc g ρ I' (zm H u) w ∧ Mono ρ I w ρ I' w ∧ ok I'
theorem FrzOk.none (c : Conc g ρ I H w) {ok : Imm → Prop} (h : ok I) : FrzOk g ρ I H w [] ok := ⟨I, Good.refl _ _ _ _, c, Mono.z1lu, h⟩
theorem zjz {f : List (Nat × Nat)} {off n : Nat} (h : z2x f off n = true) : ∀ o, off ≤ o → o < off + n → ¬ z43 f o := by
 rintro o h1 h2 ⟨r, h3, h4, h5⟩;rcases zev h r h3 with h | h <;> omega
theorem zzh (c : Conc g ρ I H w) {id off len : Nat} {l : List UInt8} {f : List (Nat × Nat)} (hid : H[id]? = some (.grow8 l f)) (hf : z2x f off len = true) (hle : off + len ≤ l.length) :
  FrzOk g ρ I H w [(id, .grow8 l ((off, off + len) :: f))] fun I' => ∀ v, slR ρ w id off 1 len v → vecR I' w false ((l.drop off).take len).length (v8 ((l.drop off).take len)) v := by
 obtain ⟨f1, f2, f3⟩ := zc5 c hid rfl (off, off + len) (zjz hf) (fun _ _ h => by simp at h)
 refine ⟨_, f1, f2, f3, fun v hv => ?_⟩
 have hlen : ((l.drop off).take len).length = len := by rw [List.length_take, List.length_drop]; omega
 rw [hlen];rcases hv with ⟨b, cap, h1, rfl, h2, h3, h4⟩ | ⟨rfl, a, rfl⟩
 ·refine ⟨_, cap, rfl, h2, by simp, .inr ⟨b, off, rfl, h3, fun i x hx => ?_⟩⟩
  obtain ⟨_, hg⟩ := c.grow id _ hid rfl;rcases hg with ⟨g1, _⟩ | ⟨b', el, fr, us, rest, g1, g2, g3, g4⟩
  ·rw [g1] at h1; simp at h1
  ·rw [g1] at h1;simp only [Option.some.injEq] at h1;subst h1;obtain ⟨ys, zs, rfl, ⟨rfl, _⟩, h6⟩ := z12.1 g3;cases h6;rw [List.append_nil] at g2;have hi : i < len := by
    have := (List.getElem?_eq_some_iff.1 hx).1
    rwa [z1k, hlen] at this
   refine ⟨?_, .inr ⟨g1, by simp only []; omega, by simp only []; omega⟩⟩
   rw [cell_of_heap g2, List.getElem?_append_left (by rw [z1k]; omega)]
   rw [← hx, ← za9, ← zah, List.getElem?_take, if_pos hi, List.getElem?_drop]
 ·exact ⟨a, 0, rfl, Nat.le_refl _, by simp, .inl rfl⟩
theorem zym (c : Conc g ρ I H w) {id k len : Nat} {rows : List AV} {f : List (Nat × Nat)} (hid : H[id]? = some (.grow k rows f)) (hf : z2x f 0 (len * k) = true) (hle : len = rows.length) :
  FrzOk g ρ I H w [(id, .grow k rows ((0, len * k) :: f))] fun I' => ∀ v, slR ρ w id 0 k len v → (∀ a ∈ rows, szA a = k) ∧ ∃ vs, RL ρ I' w rows vs ∧ vecR I' w false rows.length vs v := by
 obtain ⟨f1, f2, f3⟩ := zc5 c hid rfl (0, len * k) (fun o h1 h2 => zjz hf o h1 (by simp only [Nat.zero_add]; exact h2)) (fun _ _ h => by simp at h)
 refine ⟨_, f1, f2, f3, fun v hv => ?_⟩
 obtain ⟨hev, hg⟩ := c.grow id _ hid rfl;have hev : ∀ a ∈ rows, szA a = k := hev;refine ⟨hev, ?_⟩;subst hle;rcases hv with ⟨b, cap, h1, rfl, h2, h3, h4⟩ | ⟨h0, a, rfl⟩
 ·rcases hg with ⟨g1, _⟩ | ⟨b', el, fr, us, rest, g1, g2, g3, g4⟩
  ·rw [g1] at h1; simp at h1
  ·rw [g1] at h1;simp only [Option.some.injEq] at h1;subst h1;refine ⟨us, z15 f3 _ _ g3, _, cap, rfl, h2, by simp, .inr ⟨b', 0, rfl, h3, fun i x hx => ?_⟩⟩
   have hi := (List.getElem?_eq_some_iff.1 hx).1;refine ⟨?_, .inr ⟨g1, Nat.zero_le _, ?_⟩⟩
   ·rw [Nat.zero_add, cell_of_heap g2, List.getElem?_append_left hi];exact hx
   ·simp only [Nat.zero_add];rw [← zcj hev g3]; exact hi
 ·have : rows = [] := List.eq_nil_of_length_eq_zero h0;subst this;exact ⟨[], rfl, a, 0, rfl, Nat.le_refl _, by simp, .inl rfl⟩
theorem z1c2 (c : Conc g ρ I H w) {id off k len : Nat} {cs : List AV} {l : List UInt8} {f : List (Nat × Nat)} (hid : H[id]? = some (.blk cs f)) (hf : z2x f off len = true) (h8 : z3q H (.sl id off k len) = some (true, l)) :
  FrzOk g ρ I H w [(id, .blk cs ((off, off + len) :: f))] fun I' => ∀ v, slR ρ w id off k len v → vecR I' w false l.length (v8 l) v := by
 obtain ⟨f1, f2, f3⟩ := zc5 c hid rfl (off, off + len) (zjz hf) (fun _ _ h => by simp at h)
 refine ⟨_, f1, f2, f3, fun v hv => ?_⟩
 obtain ⟨x, cap, rfl, hc⟩ := z65 c h8 rfl (z2j.2 hv);rcases hv with ⟨b, cap', h1, h2, h3, h4, h5⟩ | ⟨h0, a, h2⟩
 ·simp only [Value.slice.injEq] at h2;obtain ⟨rfl, hl, rfl⟩ := h2;refine ⟨_, cap, rfl, by omega, by simp, ?_⟩
  rcases hc with rfl | ⟨b', off', e, hcell⟩
  ·exact .inl rfl
  ·simp only [Option.some.injEq, Addr.mk.injEq] at e;obtain ⟨rfl, rfl, _⟩ := e;refine .inr ⟨b, off, rfl, h4, fun i y hy => ⟨hcell i y hy, .inr ⟨h1, ?_, ?_⟩⟩⟩
   ·simp only []; omega
   ·have := (List.getElem?_eq_some_iff.1 hy).1;rw [z1k] at this;simp only [];omega
 ·simp only [Value.slice.injEq] at h2;obtain ⟨rfl, hl, rfl⟩ := h2;exact ⟨_, 0, rfl, by omega, by simp, .inl hl⟩
theorem zd0 {a : AV} {I' : Imm} {a' : AV} (hag : z1w a' = z1w a) (h : ∀ xs, R ρ I w a xs → R ρ I' w a' xs) {v : Value} (hv : rel ρ I w a v) : rel ρ I' w a' v := by
 unfold rel at *;cases a <;> cases a' <;> simp only [z1w, Bool.false_eq_true, reduceCtorEq] at hag <;> simp only [valOf] at hv ⊢ <;> first | trivial | exact h _ hv | exact h _ ⟨_, rfl⟩ | (obtain ⟨cs, h1, h2⟩ := hv; exact ⟨cs, h1, h _ h2⟩)
end
theorem z1em (H : Heap) (a : AV) : z1w (z57 H a).1 = z1w a := by
 cases a <;> simp only [z57] <;> try rfl
 split
 ·rename_i l f _;cases z2x f _ _ && _ <;> rfl
 ·rename_i k' rows f _;cases z2x f _ _ && _ <;> rfl
 ·rename_i f _
  split
  ·rename_i p l _;cases z2x f _ _ && _ <;> rfl
  ·rfl
 ·rfl
section
variable {g : Nat → Option (List AV)} {ρ : Rho} {w : World}
mutual
theorem zn7 : ∀ (a : AV) (I : Imm) (H : Heap), Conc g ρ I H w → FrzOk g ρ I H w (z57 H a).2 fun I' => ∀ xs, R ρ I w a xs → R ρ I' w (z57 H a).1 xs
 | .sl id off k len, I, H, c => by
  unfold z57
  split
  ·rename_i l f hid;cases hc : z2x f off len && (k == 1 && leB (off + len) l.length) with
   | true =>
    simp only [Bool.and_eq_true, beq_iff_eq] at hc;obtain ⟨hfr, rfl, hle⟩ := hc;obtain ⟨I', f1, f2, f3, f4⟩ := zzh c hid hfr (zh.1 hle);refine ⟨I', f1, f2, f3, ?_⟩;rintro xs ⟨v, rfl, hv⟩;exact ⟨v, rfl, f4 v hv⟩
   | false => exact FrzOk.none c fun xs h => h
  ·rename_i k' rows f hid;cases hc : z2x f 0 (len * k) && ((k == k' && off == 0) && len == rows.length) with
   | true =>
    simp only [Bool.and_eq_true, beq_iff_eq] at hc;obtain ⟨hfr, ⟨rfl, rfl⟩, hle⟩ := hc;obtain ⟨I', f1, f2, f3, f4⟩ := zym c hid hfr hle;refine ⟨I', f1, f2, f3, ?_⟩;rintro xs ⟨v, rfl, hv⟩;exact ⟨v, rfl, f4 v hv⟩
   | false => exact FrzOk.none c fun xs h => h
  ·rename_i cs f hid
   split
   ·rename_i p l h8;cases hc : z2x f off len && p with
    | true =>
     simp only [Bool.and_eq_true] at hc;obtain ⟨hfr, rfl⟩ := hc;obtain ⟨I', f1, f2, f3, f4⟩ := z1c2 c hid hfr h8;refine ⟨I', f1, f2, f3, ?_⟩;rintro xs ⟨v, rfl, hv⟩;exact ⟨v, rfl, f4 v hv⟩
    | false => exact FrzOk.none c fun xs h => h
   ·exact FrzOk.none c fun xs h => h
  ·exact FrzOk.none c fun xs h => h
 | .slv id k n f, I, H, c => FrzOk.none c fun xs ⟨v, h0, h1, ⟨vs, h2, h3, h4⟩, _⟩ => ⟨v, h0, h1, vs, h2, h3, h4⟩
 | .agg l, I, H, c => by
  obtain ⟨I', f1, f2, f3, f4⟩ := zny l I H c;exact ⟨I', f1, f2, f3, fun xs h => f4 xs h⟩
 | .any, I, H, c | .raw _, I, H, c | .int _ _, I, H, c | .u8 _, I, H, c | .u32 _, I, H, c | .u64 _, I, H, c | .bool _, I, H, c | .str _, I, H, c | .b8 _ _, I, H, c | .w32 _ _, I, H, c | .w64 _ _, I, H, c | .n64 _ _, I, H, c
 | .ptr _ _, I, H, c | .pix _ _ _ _, I, H, c | .vec8 _ _, I, H, c | .vec _ _ _, I, H, c | .vecr _ _ _ _, I, H, c | .vp _ _, I, H, c | .vpx _ _ _ _, I, H, c | .fn _ _ _, I, H, c | .tup _, I, H, c => FrzOk.none c fun xs h => h
theorem zny : ∀ (l : List AV) (I : Imm) (H : Heap), Conc g ρ I H w → FrzOk g ρ I H w (z5m H l).2 fun I' => ∀ xs, RL ρ I w l xs → RL ρ I' w (z5m H l).1 xs
 | [], I, H, c => FrzOk.none c fun xs h => h
 | a :: as, I, H, c => by
  obtain ⟨I1, f1, f2, f3, f4⟩ := zn7 a I H c;obtain ⟨I2, g1, g2, g3, g4⟩ := zny as I1 (zm H (z57 H a).2) f2;refine ⟨I2, ?_, ?_, f3.trans' g3, ?_⟩
  ·show Good ρ I H w ρ I2 (zm H ((z57 H a).2 ++ (z5m (zm H (z57 H a).2) as).2)) w;rw [z1h]; exact f1.trans g1
  ·show Conc g ρ I2 (zm H ((z57 H a).2 ++ (z5m (zm H (z57 H a).2) as).2)) w;rw [z1h]; exact g2
  ·rintro xs ⟨ys, zs, rfl, h1, h2⟩;exact ⟨ys, zs, rfl, zdk g3 _ _ (f4 ys h1), g4 zs (z15 f3 _ _ h2)⟩
end
theorem zz7 : ∀ (l : List AV) (I : Imm) (H : Heap), Conc g ρ I H w → FrzOk g ρ I H w (z5m H l).2 fun I' => ∀ vs, RV ρ I w l vs → RV ρ I' w (z5m H l).1 vs
 | [], I, H, c => FrzOk.none c fun xs h => h
 | a :: as, I, H, c => by
  obtain ⟨I1, f1, f2, f3, f4⟩ := zn7 a I H c;obtain ⟨I2, g1, g2, g3, g4⟩ := zz7 as I1 (zm H (z57 H a).2) f2;refine ⟨I2, ?_, ?_, f3.trans' g3, ?_⟩
  ·show Good ρ I H w ρ I2 (zm H ((z57 H a).2 ++ (z5m (zm H (z57 H a).2) as).2)) w;rw [z1h]; exact f1.trans g1
  ·show Conc g ρ I2 (zm H ((z57 H a).2 ++ (z5m (zm H (z57 H a).2) as).2)) w;rw [z1h]; exact g2
  ·intro vs h;obtain ⟨x, xs, rfl, h1, h2⟩ := zr.1 h;exact zr.2 ⟨x, xs, rfl, z8o g3 (zd0 (z1em H a) f4 h1), g4 xs (z7v f3 _ _ h2)⟩
end
section
variable {P : Program} (G : Env P)
def z8p (op : Op) (ev : Operand → AV) (H : Heap) (nid : Nat) : Option Eff :=
 match op with
 | .buildSlice t len parts => match z5m H (parts.toList.map fun p => ev p.2) with
  | (vs, u) => match z6o G t len (zm H u) nid ((parts.toList.map fun p => p.1).zip vs) with
   | some E => some (E.pre u)
   | none => none
 | _ => none
end
theorem z19b (H : Heap) : ∀ (l : List AV), (z5m H l).1.length = l.length := by
 intro l
 induction l generalizing H with
 | nil => rfl
 | cons a as ih => simp only [z5m, List.length_cons, ih]
section
variable {P : Program} {G : Env P} {ρ : Rho} {I : Imm} {H : Heap} {w : World}
theorem zvn (c : Conc G.g ρ I H w) {ev : Operand → AV} {e : Operand → Value} (r : ∀ x, rel ρ I w (ev x) (e x)) {t len nid : Nat} {parts : Array (Nat × Operand)} {vs : List AV} {u0 u1 : List (Nat × Ent)} {E : Eff} {v : AV}
  (hf : z5m H (parts.toList.map fun p => ev p.2) = (vs, u0)) (hE : z6o G t len (zm H u0) nid ((parts.toList.map fun p => p.1).zip vs) = some E) (hh : E.has v u1) :
  ∃ v' w' ρ' I', (Instr.buildSlice t len (parts.map fun p => (p.1, e p.2))).run P w = .ok v' w' ∧ Good ρ I H w ρ' I' (zm H (u0 ++ u1)) w' ∧ Conc G.g ρ' I' (zm H (u0 ++ u1)) w' ∧ Mono ρ I w ρ' I' w' ∧ rel ρ' I' w' v v' := by
 obtain ⟨I1, f1, f2, f3, f4⟩ := zz7 (g := G.g) (ρ := ρ) (w := w) (parts.toList.map fun p => ev p.2) I H c
 have hlen := z19b H (parts.toList.map fun p => ev p.2)
 rw [hf] at f1 f2 f4 hlen;simp only [List.length_map] at hlen;have hrv : RV ρ I w (parts.toList.map fun p => ev p.2) (parts.toList.map fun p => e p.2) := by
  refine zd6.2 ⟨by simp, fun i a x ha hx => ?_⟩
  rw [List.getElem?_map] at ha hx;cases hp : parts.toList[i]? with
  | none => simp [hp] at ha
  | some p =>
   simp only [hp, Option.map_some, Option.some.injEq] at ha hx;subst ha; subst hx
   exact r p.2
 have h2 := f4 _ hrv;have hvp : (parts.map fun p => (p.1, e p.2)).toList = parts.toList.map fun p => (p.1, e p.2) := by simp
 have hi : ((parts.toList.map fun p => p.1).zip vs).map (·.1) = (parts.map fun p => (p.1, e p.2)).toList.map (·.1) := by
  rw [hvp, List.map_map, List.map_fst_zip (by simp [hlen])]
  rfl
 have hr : RV ρ I1 w (((parts.toList.map fun p => p.1).zip vs).map (·.2)) ((parts.map fun p => (p.1, e p.2)).toList.map (·.2)) := by
  rw [hvp, List.map_map, List.map_snd_zip (by simp [hlen])]
  exact h2
 obtain ⟨v', w', ρ', k1, k2, k3, k4, k5⟩ := zbn f2 hi hr hE hh;refine ⟨v', w', ρ', I1, k1, ?_, ?_, f3.trans' k4, k5⟩
 ·rw [z1h]; exact f1.trans k2
 ·rw [z1h]; exact k3
theorem zf8 (c : Conc G.g ρ I H w) (ev : Operand → AV) (e : Operand → Value) (r : ∀ x, rel ρ I w (ev x) (e x)) (o : Oper) (nid : Nat) (E : Eff) (v : AV) (u : List (Nat × Ent)) (h : z8p G o.op ev H nid = some E) (hh : E.has v u) :
  EffOk G ρ I H w ((execOp e o).run P w) v u := by
 unfold z8p at h
 split at h
 ·rename_i t len parts hop
  split at h
  rename_i vs u0 hf
  split at h
  ·rename_i E' hE;simp only [Option.some.injEq] at h;subst h;obtain ⟨u1, rfl, hh'⟩ := Eff.z1lo hh;have key := zvn (t := t) (len := len) (nid := nid) (parts := parts) c r hf hE hh';have run : ∀ (y : Value) (w' : World), (Instr.buildSlice t len (parts.map fun p => (p.1, e p.2))).run P w = .ok y w' → (execOp e o).run P w = .ok (.value y) w' := by
    intro y w' h;simp only [execOp, hop, Sem.run_bind, h, Result.andThen_ok];rfl
   exact EffOk.z1lw run key
  ·simp at h
 ·simp at h
mutual
theorem z12r : ∀ (a : AV) {H H' : Heap}, (∀ id ∈ z3v a, H'[id]? = H[id]?) → z57 H' a = z57 H a
 | .sl id off k len, H, H', hr => by
  have := hr id (by simp [z3v])
  simp only [z57, z3q, this]
 | .slv id k n f, H, H', _ => rfl
 | .agg l, H, H', hr => by simp only [z57, zhj l (by simpa [z3v] using hr)]
 | .any, _, _, _ | .raw _, _, _, _ | .int _ _, _, _, _ | .u8 _, _, _, _ | .u32 _, _, _, _ | .u64 _, _, _, _ | .bool _, _, _, _ | .str _, _, _, _ | .b8 _ _, _, _, _ | .w32 _ _, _, _, _ | .w64 _ _, _, _, _ | .n64 _ _, _, _, _
 | .ptr _ _, _, _, _ | .pix _ _ _ _, _, _, _ | .vec8 _ _, _, _, _ | .vec _ _ _, _, _, _ | .vecr _ _ _ _, _, _, _ | .vp _ _, _, _, _ | .vpx _ _ _ _, _, _, _ | .fn _ _ _, _, _, _ | .tup _, _, _, _ => rfl
theorem zhj : ∀ (l : List AV) {H H' : Heap}, (∀ id ∈ z4b l, H'[id]? = H[id]?) → z5m H' l = z5m H l
 | [], _, _, _ => rfl
 | a :: as, H, H', hr => by
  have h1 := z12r a fun id h => hr id (by simp [z4b, h])
  have h2 : z5m (zm H' (z57 H a).2) as = z5m (zm H (z57 H a).2) as := zhj as fun id h => by
   have := hr id (by simp [z4b, h])
   have key : ∀ (u : List (Nat × Ent)) (H1 H2 : Heap), H1[id]? = H2[id]? → (zm H1 u)[id]? = (zm H2 u)[id]? := by
    intro u
    induction u with
    | nil => intro H1 H2 h; exact h
    | cons p r ih =>
     intro H1 H2 h;obtain ⟨i, e⟩ := p;refine ih _ _ ?_;rw [List.getElem?_set, List.getElem?_set, h]
     by_cases hi : i = id
     ·subst hi;have : i < H1.length ↔ i < H2.length := by
       rw [← Decidable.not_iff_not, Nat.not_lt, Nat.not_lt, ← List.getElem?_eq_none_iff, ← List.getElem?_eq_none_iff, h]
      simp only [if_true, this]
     ·simp only [if_neg hi]
   exact key _ _ _ this
  simp only [z5m, h1, h2]
end
theorem zfy (op : Op) (ev ev' : Operand → AV) (H H' : Heap) (nid : Nat) (he : ∀ x ∈ op.operands, ev' x = ev x) (hr : ∀ id ∈ z1u ev op nid (z3d G op), H'[id]? = H[id]?) : z8p G op ev' H' nid = z8p G op ev H nid := by
 cases op with
 | buildSlice t len parts =>
  have h0 : H'[nid]? = H[nid]? := hr nid (by simp [z1u, z3d, upTo])
  have hp : (parts.toList.map fun p => ev' p.2) = parts.toList.map fun p => ev p.2 := by
   apply List.map_congr_left;intro p hp;rw [he p.2 (by simp only [Op.operands, List.mem_toArray, List.mem_map]; exact ⟨p, hp, rfl⟩)]
  have hd : ∀ id ∈ z4b (parts.toList.map fun p => ev p.2), H'[id]? = H[id]? := by
   have sub : ∀ (l : List AV) (id : Nat), id ∈ z4b l → ∃ a ∈ l, id ∈ z3v a := by
    intro l
    induction l with
    | nil => intro id h; simp [z4b] at h
    | cons a as ih =>
     intro id h;simp only [z4b, List.mem_append] at h;rcases h with h | h
     ·exact ⟨a, by simp, h⟩
     ·obtain ⟨b, h1, h2⟩ := ih id h;exact ⟨b, by simp [h1], h2⟩
   intro id h;obtain ⟨a, h1, h2⟩ := sub _ id h;obtain ⟨p, h3, rfl⟩ := List.mem_map.1 h1;refine hr id ?_;simp only [z1u];refine List.mem_append_left _ (z4h (x := p.2) (by simp only [Op.operands, List.mem_map]; exact ⟨p, h3, rfl⟩) ?_)
   cases hx : ev p.2 <;> rw [hx] at h2 <;> simp_all [z3v, z1p]
  have hz := zhj (parts.toList.map fun p => ev p.2) hd
  have h0' : z34 (zm H' (z5m H (parts.toList.map fun p => ev p.2)).2) nid = z34 (zm H (z5m H (parts.toList.map fun p => ev p.2)).2) nid := by
   have key : ∀ (u : List (Nat × Ent)) (H1 H2 : Heap), H1[nid]? = H2[nid]? → (zm H1 u)[nid]? = (zm H2 u)[nid]? := by
    intro u
    induction u with
    | nil => intro H1 H2 h; exact h
    | cons p r ih =>
     intro H1 H2 h;obtain ⟨i, e⟩ := p;refine ih _ _ ?_;rw [List.getElem?_set, List.getElem?_set, h]
     by_cases hi : i = nid
     ·subst hi;have : i < H1.length ↔ i < H2.length := by
       rw [← Decidable.not_iff_not, Nat.not_lt, Nat.not_lt, ← List.getElem?_eq_none_iff, ← List.getElem?_eq_none_iff, h]
      simp only [if_true, this]
     ·simp only [if_neg hi]
   exact z5r (key _ _ _ h0)
  simp only [z8p, hp, hz, z6o, h0']
 | _ => rfl
end
def ROps.rows {P : Program} (G : Env P) : ROps G where
 f := fun op ev H nid => match zb4 G op ev H nid with
  | some E => some E
  | none => match z8p G op ev H nid with
   | some E => some E
   | none => (ROps.frz G).f op ev H nid
 congr := fun op ev ev' H H' nid he hr => by rw [zd2 op ev ev' H H' nid he hr, zfy op ev ev' H H' nid he hr, (ROps.frz G).congr op ev ev' H H' nid he hr]
 sound := fun ρ I H w c ev e r o nid E v u h hh => by
  split at h
  ·rename_i E' hE;simp only [Option.some.injEq] at h;subst h;exact zdh c ev e r o nid E' v u hE hh
  ·split at h
   ·rename_i E' hE;simp only [Option.some.injEq] at h;subst h;exact zf8 c ev e r o nid E' v u hE hh
   ·exact (ROps.frz G).sound ρ I H w c ev e r o nid E v u h hh
def ROps.rows0 {P : Program} (G : Env P) : ROps G where
 f := fun op ev H nid => match zb4 G op ev H nid with
  | some E => some E
  | none => match z8p G op ev H nid with
   | some E => some E
   | none => z81 G op ev H nid
 congr := fun op ev ev' H H' nid he hr => by rw [zd2 op ev ev' H H' nid he hr, zfy op ev ev' H H' nid he hr, zeu op ev ev' H H' nid he hr]
 sound := fun ρ I H w c ev e r o nid E v u h hh => by
  split at h
  ·rename_i E' hE;simp only [Option.some.injEq] at h;subst h;exact zdh c ev e r o nid E' v u hE hh
  ·split at h
   ·rename_i E' hE;simp only [Option.some.injEq] at h;subst h;exact zf8 c ev e r o nid E' v u hE hh
   ·exact zez c ev e r o nid E v u h hh
end
noncomputable section
section
variable {g : Nat → Option (List AV)} {ρ : Rho} {I : Imm} {H : Heap} {w : World}
theorem zma (c : Conc g ρ I H w) {w' : World} (hsz : w.heap.size ≤ w'.heap.size) (hold : ∀ b, b < w.heap.size → w'.heap[b]? = w.heap[b]?) (J : Imm) (hJ : ∀ b o, J b o → w.heap.size ≤ b ∧ b < w'.heap.size)
  (hos : w'.os = w.os) (htape : w'.tape = w.tape) (hout : w'.output = w.output) :
  Good ρ I H w ρ (fun b o => I b o ∨ J b o) H w' ∧ Conc g ρ (fun b o => I b o ∨ J b o) H w' ∧ Mono ρ I w ρ (fun b o => I b o ∨ J b o) w' := by
 have gd : Good ρ I H w ρ (fun b o => I b o ∨ J b o) H w' :=
  ⟨fun _ _ h => h, fun _ _ _ h => h, Nat.le_refl _, fun _ _ h => .inl h, fun b o hb h => h.elim .inl fun h => by have := (hJ b o h).1; omega, hos, htape, hout, hsz,
   fun b off h _ => by simp only [World.cell?, hold b h], fun b h _ => hold b h, fun b h => by unfold bsz; rw [hold b h], fun _ _ _ h => h, fun _ _ h => h⟩
 have m := c.mono gd fun _ _ h => h
 refine ⟨gd, ⟨c.dom, c.res, fun id b h => by have := c.blt id b h; omega, c.inj, ?_, ?_, ?_, ?_⟩, m⟩
 ·intro id cs f h;obtain ⟨b, el, fr, us, k1, k2, k3, k4⟩ := c.blk id cs f h;exact ⟨b, el, fr, us, k1, by rw [hold b (c.blt id b k1)]; exact k2, z15 m _ _ k3, k4⟩
 ·intro id e1 h he;obtain ⟨q, h'⟩ := c.grow id e1 h he;refine ⟨q, ?_⟩;rcases h' with ⟨k1, k2⟩ | ⟨b, el, fr, us, rest, k1, k2, k3, k4⟩
  ·exact .inl ⟨k1, k2⟩
  ·exact .inr ⟨b, el, fr, us, rest, k1, by rw [hold b (c.blt id b k1)]; exact k2, z15 m _ _ k3, k4⟩
 ·intro b o hb;rcases hb with hb | hb
  ·obtain ⟨q1, q2⟩ := c.imm b o hb;exact ⟨by omega, q2⟩
  ·obtain ⟨q1, q2⟩ := hJ b o hb;refine ⟨q2, ?_⟩;rintro ⟨i, e, _, _, k3, _⟩;have := c.blt i b k3;omega
 ·intro n cs h;obtain ⟨vs, k1, k2⟩ := c.glob n cs h;exact ⟨vs, z4q m k1, k2.mono m.imm⟩
end
section
variable {g : Nat → Option (List AV)} {ρ : Rho} {I : Imm} {H : Heap} {w : World}
theorem z1dg (c : Conc g ρ I H w) {id off : Nat} {cs : List AV} {f : List (Nat × Nat)} (hid : H[id]? = some (.blk cs f)) (hf : z2x f 0 (szL cs) = true) :
  FrzOk g ρ I H w [(id, .blk cs ((0, szL cs) :: f))] fun I' => ∀ v, (∃ b, ρ id = some (some b) ∧ v = .pointer (some ⟨b, off, none⟩)) → ∃ vs, RL ρ I' w cs vs ∧ vpR I' w off vs v := by
 obtain ⟨f1, f2, f3⟩ := zc5 c hid rfl (0, szL cs) (fun o h1 h2 => zjz hf o h1 (by simp only [Nat.zero_add]; exact h2)) (fun _ _ h => by simp at h)
 refine ⟨_, f1, f2, f3, ?_⟩;rintro v ⟨b, h1, rfl⟩;obtain ⟨b', el, fr, us, g1, g2, g3, g4⟩ := c.blk id cs f hid;rw [g1] at h1;simp only [Option.some.injEq] at h1;subst h1;refine ⟨us, z15 f3 _ _ g3, b', 0, by rw [Nat.zero_add], fun i x hx => ?_⟩
 have hi := (List.getElem?_eq_some_iff.1 hx).1;rw [z3g _ _ g3] at hi;refine ⟨?_, .inr ⟨g1, Nat.zero_le _, by simpa using hi⟩⟩
 rw [Nat.zero_add, cell_of_heap g2];exact hx
end
mutual
def z23 (H : Heap) : AV → Bool × AV × List (Nat × Ent)
 | .sl id off k len => match H[id]? with
  | some (.grow8 l f) => (z2x f off len && (k == 1 && leB (off + len) l.length), .vec8 false ((l.drop off).take len), [(id, .grow8 l ((off, off + len) :: f))])
  | some (.grow k' rows f) => (z2x f 0 (len * k) && ((k == k' && off == 0) && len == rows.length), .vec false k rows, [(id, .grow k' rows ((0, len * k) :: f))])
  | _ => (true, .sl id off k len, [])
 | .slv _ k n f => (true, .vecr false k n f, [])
 | .ptr id off => match H[id]? with
  | some (.blk c f) => (z2x f 0 (szL c), .vp c off, [(id, .blk c ((0, szL c) :: f))])
  | _ => (true, .ptr id off, [])
 | .agg l => match z2a H l with
  | (c, l', u) => (c, .agg l', u)
 | a => (true, a, [])
def z2a (H : Heap) : List AV → Bool × List AV × List (Nat × Ent)
 | [] => (true, [], [])
 | a :: as => match z23 H a with
  | (c, a', u) => match z2a (zm H u) as with
   | (c', as', u') => (c && c', a' :: as', u ++ u')
end
theorem zt8 (H : Heap) (a : AV) : z1w (z23 H a).2.1 = z1w a := by
 cases a <;> simp only [z23] <;> try rfl
 all_goals (split <;> rfl)
section
variable {g : Nat → Option (List AV)} {ρ : Rho} {w : World}
mutual
theorem zej : ∀ (a : AV) (I : Imm) (H : Heap), Conc g ρ I H w → (z23 H a).1 = true → FrzOk g ρ I H w (z23 H a).2.2 fun I' => ∀ xs, R ρ I w a xs → R ρ I' w (z23 H a).2.1 xs
 | .sl id off k len, I, H, c, hc => by
  unfold z23 at hc ⊢
  split at hc
  ·rename_i l f hid;simp only [Bool.and_eq_true, beq_iff_eq] at hc;obtain ⟨hfr, rfl, hle⟩ := hc;simp only [hid];obtain ⟨I', f1, f2, f3, f4⟩ := zzh c hid hfr (zh.1 hle);refine ⟨I', f1, f2, f3, ?_⟩;rintro xs ⟨v, rfl, hv⟩;exact ⟨v, rfl, f4 v hv⟩
  ·rename_i k' rows f hid;simp only [Bool.and_eq_true, beq_iff_eq] at hc;obtain ⟨hfr, ⟨rfl, rfl⟩, hle⟩ := hc;simp only [hid];obtain ⟨I', f1, f2, f3, f4⟩ := zym c hid hfr hle;refine ⟨I', f1, f2, f3, ?_⟩;rintro xs ⟨v, rfl, hv⟩;exact ⟨v, rfl, f4 v hv⟩
  ·exact FrzOk.none c fun xs h => h
 | .slv id k n f, I, H, c, _ => FrzOk.none c fun xs ⟨v, h0, h1, ⟨vs, h2, h3, h4⟩, _⟩ => ⟨v, h0, h1, vs, h2, h3, h4⟩
 | .ptr id off, I, H, c, hc => by
  unfold z23 at hc ⊢
  split at hc
  ·rename_i cs f hid;simp only [hid];obtain ⟨I', f1, f2, f3, f4⟩ := z1dg (off := off) c hid hc;refine ⟨I', f1, f2, f3, ?_⟩;rintro xs ⟨v, rfl, hv⟩;exact ⟨v, rfl, f4 v hv⟩
  ·exact FrzOk.none c fun xs h => h
 | .agg l, I, H, c, hc => by
  obtain ⟨I', f1, f2, f3, f4⟩ := zex l I H c hc;exact ⟨I', f1, f2, f3, fun xs h => f4 xs h⟩
 | .any, I, H, c, _ | .raw _, I, H, c, _ | .int _ _, I, H, c, _ | .u8 _, I, H, c, _ | .u32 _, I, H, c, _ | .u64 _, I, H, c, _ | .bool _, I, H, c, _ | .str _, I, H, c, _ | .b8 _ _, I, H, c, _ | .w32 _ _, I, H, c, _ | .w64 _ _, I, H, c, _ | .n64 _ _, I, H, c, _
 | .pix _ _ _ _, I, H, c, _ | .vec8 _ _, I, H, c, _ | .vec _ _ _, I, H, c, _ | .vecr _ _ _ _, I, H, c, _ | .vp _ _, I, H, c, _ | .vpx _ _ _ _, I, H, c, _ | .fn _ _ _, I, H, c, _ | .tup _, I, H, c, _ => FrzOk.none c fun xs h => h
theorem zex : ∀ (l : List AV) (I : Imm) (H : Heap), Conc g ρ I H w → (z2a H l).1 = true → FrzOk g ρ I H w (z2a H l).2.2 fun I' => ∀ xs, RL ρ I w l xs → RL ρ I' w (z2a H l).2.1 xs
 | [], I, H, c, _ => FrzOk.none c fun xs h => h
 | a :: as, I, H, c, hc => by
  have hc2 : (z23 H a).1 = true ∧ (z2a (zm H (z23 H a).2.2) as).1 = true := by simpa [z2a] using hc
  obtain ⟨I1, f1, f2, f3, f4⟩ := zej a I H c hc2.1;obtain ⟨I2, g1, g2, g3, g4⟩ := zex as I1 (zm H (z23 H a).2.2) f2 hc2.2;refine ⟨I2, ?_, ?_, f3.trans' g3, ?_⟩
  ·show Good ρ I H w ρ I2 (zm H ((z23 H a).2.2 ++ (z2a (zm H (z23 H a).2.2) as).2.2)) w;rw [z1h]; exact f1.trans g1
  ·show Conc g ρ I2 (zm H ((z23 H a).2.2 ++ (z2a (zm H (z23 H a).2.2) as).2.2)) w;rw [z1h]; exact g2
  ·rintro xs ⟨ys, zs, rfl, h1, h2⟩;exact ⟨ys, zs, rfl, zdk g3 _ _ (f4 ys h1), g4 zs (z15 f3 _ _ h2)⟩
end
theorem zge : ∀ (l : List AV) (I : Imm) (H : Heap), Conc g ρ I H w → (z2a H l).1 = true → FrzOk g ρ I H w (z2a H l).2.2 fun I' => ∀ vs, RV ρ I w l vs → RV ρ I' w (z2a H l).2.1 vs
 | [], I, H, c, _ => FrzOk.none c fun xs h => h
 | a :: as, I, H, c, hc => by
  have hc2 : (z23 H a).1 = true ∧ (z2a (zm H (z23 H a).2.2) as).1 = true := by simpa [z2a] using hc
  obtain ⟨I1, f1, f2, f3, f4⟩ := zej a I H c hc2.1;obtain ⟨I2, g1, g2, g3, g4⟩ := zge as I1 (zm H (z23 H a).2.2) f2 hc2.2;refine ⟨I2, ?_, ?_, f3.trans' g3, ?_⟩
  ·show Good ρ I H w ρ I2 (zm H ((z23 H a).2.2 ++ (z2a (zm H (z23 H a).2.2) as).2.2)) w;rw [z1h]; exact f1.trans g1
  ·show Conc g ρ I2 (zm H ((z23 H a).2.2 ++ (z2a (zm H (z23 H a).2.2) as).2.2)) w;rw [z1h]; exact g2
  ·intro vs h;obtain ⟨x, xs, rfl, h1, h2⟩ := zr.1 h;exact zr.2 ⟨x, xs, rfl, z8o g3 (zd0 (zt8 H a) f4 h1), g4 xs (z7v f3 _ _ h2)⟩
end
mutual
theorem zwy : ∀ (a : AV) {H H' : Heap}, (∀ id ∈ z3v a, H'[id]? = H[id]?) → z23 H' a = z23 H a
 | .sl id off k len, H, H', hr => by
  have := hr id (by simp [z3v])
  simp only [z23, this]
 | .slv id k n f, H, H', _ => rfl
 | .ptr id off, H, H', hr => by
  have := hr id (by simp [z3v])
  simp only [z23, this]
 | .agg l, H, H', hr => by simp only [z23, zb0 l (by simpa [z3v] using hr)]
 | .any, _, _, _ | .raw _, _, _, _ | .int _ _, _, _, _ | .u8 _, _, _, _ | .u32 _, _, _, _ | .u64 _, _, _, _ | .bool _, _, _, _ | .str _, _, _, _ | .b8 _ _, _, _, _ | .w32 _ _, _, _, _ | .w64 _ _, _, _, _ | .n64 _ _, _, _, _
 | .pix _ _ _ _, _, _, _ | .vec8 _ _, _, _, _ | .vec _ _ _, _, _, _ | .vecr _ _ _ _, _, _, _ | .vp _ _, _, _, _ | .vpx _ _ _ _, _, _, _ | .fn _ _ _, _, _, _ | .tup _, _, _, _ => rfl
theorem zb0 : ∀ (l : List AV) {H H' : Heap}, (∀ id ∈ z4b l, H'[id]? = H[id]?) → z2a H' l = z2a H l
 | [], _, _, _ => rfl
 | a :: as, H, H', hr => by
  have h1 := zwy a fun id h => hr id (by simp [z4b, h])
  have h2 : z2a (zm H' (z23 H a).2.2) as = z2a (zm H (z23 H a).2.2) as := zb0 as fun id h => z9g _ (hr id (by simp [z4b, h]))
  simp only [z2a, h1, h2]
end
mutual
theorem z10f : ∀ (a : AV) (H : Heap) (id : Nat), id ∈ z3v (z23 H a).2.1 → id ∈ z3v a
 | .sl id off k len, H, x, h => by
  unfold z23 at h
  split at h
  ·simp [z3v] at h
  ·simp [z3v] at h
  ·exact h
 | .slv id k n f, H, x, h => by simp [z23, z3v] at h
 | .ptr id off, H, x, h => by
  unfold z23 at h
  split at h
  ·simp [z3v] at h
  ·exact h
 | .agg l, H, x, h => by
  simp only [z23, z3v] at h ⊢;exact zgl l H x h
 | .any, _, _, h | .raw _, _, _, h | .int _ _, _, _, h | .u8 _, _, _, h | .u32 _, _, _, h | .u64 _, _, _, h | .bool _, _, _, h | .str _, _, _, h | .b8 _ _, _, _, h | .w32 _ _, _, _, h | .w64 _ _, _, _, h | .n64 _ _, _, _, h
 | .pix _ _ _ _, _, _, h | .vec8 _ _, _, _, h | .vec _ _ _, _, _, h | .vecr _ _ _ _, _, _, h | .vp _ _, _, _, h | .vpx _ _ _ _, _, _, h | .fn _ _ _, _, _, h | .tup _, _, _, h => h
theorem zgl : ∀ (l : List AV) (H : Heap) (id : Nat), id ∈ z4b (z2a H l).2.1 → id ∈ z4b l
 | [], _, _, h => h
 | a :: as, H, x, h => by
  simp only [z2a, z4b, List.mem_append] at h ⊢;rcases h with h | h
  ·exact .inl (z10f a H x h)
  ·exact .inr (zgl as _ x h)
end
theorem zb9 {id : Nat} : ∀ {l : List AV}, id ∈ z4b l ↔ ∃ a ∈ l, id ∈ z3v a
 | [] => by simp [z4b]
 | a :: as => by simp [z4b, zb9 (l := as)]
section
variable {P : Program} (G : Env P)
def z94 (op : Op) (ev : Operand → AV) (H : Heap) (nid : Nat) : Option Eff :=
 match op with
 | .buildSlice t len parts => match z2a H (parts.toList.map fun p => ev p.2) with
  | (c, vs, u) => match z6o G t len (zm H u) nid ((parts.toList.map fun p => p.1).zip vs) with
   | some E => some (.ck c (E.pre u))
   | none => none
 | _ => none
def zag (op : Op) (ev : Operand → AV) : Option Eff :=
 match op with
 | .convert s d x => match G.ty s, G.ty d, ev x with
  | some ts, some td, .str l => match ts.kind, td.kind with
   | .string, .slice e => match G.ty e with
    | some te => match te.kind with
     | .int .u8 => some (.ck (te.size == 1) (.one true (.vec8 false l) []))
     | _ => none
    | none => none
   | _, _ => none
  | _, _, _ => none
 | _ => none
end
theorem zik : ∀ (l : List AV) (H : Heap), (z2a H l).2.1.length = l.length
 | [], _ => rfl
 | a :: as, H => by simp only [z2a, List.length_cons, zik as]
section
variable {P : Program} {G : Env P} {ρ : Rho} {I : Imm} {H : Heap} {w : World}
theorem zs5 (c : Conc G.g ρ I H w) {ev : Operand → AV} {e : Operand → Value} (r : ∀ x, rel ρ I w (ev x) (e x)) {t len nid : Nat} {parts : Array (Nat × Operand)} {vs : List AV} {u0 u1 : List (Nat × Ent)} {E : Eff} {v : AV}
  (hf : z2a H (parts.toList.map fun p => ev p.2) = (true, vs, u0)) (hE : z6o G t len (zm H u0) nid ((parts.toList.map fun p => p.1).zip vs) = some E) (hh : E.has v u1) :
  ∃ v' w' ρ' I', (Instr.buildSlice t len (parts.map fun p => (p.1, e p.2))).run P w = .ok v' w' ∧ Good ρ I H w ρ' I' (zm H (u0 ++ u1)) w' ∧ Conc G.g ρ' I' (zm H (u0 ++ u1)) w' ∧ Mono ρ I w ρ' I' w' ∧ rel ρ' I' w' v v' := by
 obtain ⟨I1, f1, f2, f3, f4⟩ := zge (g := G.g) (ρ := ρ) (w := w) (parts.toList.map fun p => ev p.2) I H c (by rw [hf])
 have hlen := zik (parts.toList.map fun p => ev p.2) H
 rw [hf] at f1 f2 f4 hlen;simp only [List.length_map] at hlen;have hrv : RV ρ I w (parts.toList.map fun p => ev p.2) (parts.toList.map fun p => e p.2) := by
  refine zd6.2 ⟨by simp, fun i a x ha hx => ?_⟩
  rw [List.getElem?_map] at ha hx;cases hp : parts.toList[i]? with
  | none => simp [hp] at ha
  | some p =>
   simp only [hp, Option.map_some, Option.some.injEq] at ha hx;subst ha; subst hx
   exact r p.2
 have h2 := f4 _ hrv;have hvp : (parts.map fun p => (p.1, e p.2)).toList = parts.toList.map fun p => (p.1, e p.2) := by simp
 have hi : ((parts.toList.map fun p => p.1).zip vs).map (·.1) = (parts.map fun p => (p.1, e p.2)).toList.map (·.1) := by
  rw [hvp, List.map_map, List.map_fst_zip (by simp [hlen])]
  rfl
 have hr : RV ρ I1 w (((parts.toList.map fun p => p.1).zip vs).map (·.2)) ((parts.map fun p => (p.1, e p.2)).toList.map (·.2)) := by
  rw [hvp, List.map_map, List.map_snd_zip (by simp [hlen])]
  exact h2
 obtain ⟨v', w', ρ', k1, k2, k3, k4, k5⟩ := zbn f2 hi hr hE hh;refine ⟨v', w', ρ', I1, k1, ?_, ?_, f3.trans' k4, k5⟩
 ·rw [z1h]; exact f1.trans k2
 ·rw [z1h]; exact k3
theorem zog (c : Conc G.g ρ I H w) (ev : Operand → AV) (e : Operand → Value) (r : ∀ x, rel ρ I w (ev x) (e x)) (o : Oper) (nid : Nat) (E : Eff) (v : AV) (u : List (Nat × Ent)) (h : z94 G o.op ev H nid = some E) (hh : E.has v u) :
  EffOk G ρ I H w ((execOp e o).run P w) v u := by
 unfold z94 at h
 split at h
 ·rename_i t len parts hop
  split at h
  rename_i cc vs u0 hf
  split at h
  ·rename_i E' hE;simp only [Option.some.injEq] at h;subst h;obtain ⟨hcc, hh⟩ := hh;subst hcc;obtain ⟨u1, rfl, hh'⟩ := Eff.z1lo hh;have key := zs5 (t := t) (len := len) (nid := nid) (parts := parts) c r hf hE hh';have run : ∀ (y : Value) (w' : World), (Instr.buildSlice t len (parts.map fun p => (p.1, e p.2))).run P w = .ok y w' → (execOp e o).run P w = .ok (.value y) w' := by
    intro y w' h;simp only [execOp, hop, Sem.run_bind, h, Result.andThen_ok];rfl
   exact EffOk.z1lw run key
  ·simp at h
 ·simp at h
theorem zoo (c : Conc G.g ρ I H w) (ev : Operand → AV) (e : Operand → Value) (r : ∀ x, rel ρ I w (ev x) (e x)) (o : Oper) (E : Eff) (v : AV) (u : List (Nat × Ent)) (h : zag G o.op ev = some E) (hh : E.has v u) :
  EffOk G ρ I H w ((execOp e o).run P w) v u := by
 unfold zag at h
 split at h
 case h_2 => cases h
 rename_i s d x hop
 split at h
 case h_2 => cases h
 rename_i ts td l hts htd hx;obtain ⟨js, ds, _, s2, _, _, s5, _⟩ := z1a hts;obtain ⟨jd, dd, _, d2, _, _, d5, _⟩ := z1a htd
 split at h
 case h_2 => cases h
 rename_i e' hks hkd;rw [hks] at s5;rw [hkd] at d5;obtain rfl := TK.of_string s5;obtain rfl := TK.of_slice d5
 split at h
 case h_2 => cases h
 rename_i te hte;obtain ⟨je, de, _, e2, _, _, e5, _⟩ := z1a hte
 split at h
 case h_2 => cases h
 rename_i hke;rw [hke] at e5;obtain rfl := TK.of_int e5;simp only [Option.some.injEq] at h;subst h;obtain ⟨_, _, rfl, rfl⟩ := hh;have hv : e x = .string ⟨l.toArray⟩ := by
  have := r x;rw [hx] at this;exact zi.1 this
 have hrun := Lib.run_convert_string_bytes (P := P) w s d e' ⟨l.toArray⟩ s2 d2 e2;have hcs : Lib.bytesCells w e' ⟨l.toArray⟩ = (v8 l ++ (Array.replicate (grownCap w l.length 0 e' - l.length) (Value.int .u8 0)).toList).toArray := by
  simp [Lib.bytesCells, v8, ByteArray.size]
 have hnew := Lib.bytesWorld_at_new w e' ⟨l.toArray⟩;rw [hcs] at hnew;have hge := grownCap_ge w l.length 0 e';have hsz := Lib.bytesWorld_size w e' ⟨l.toArray⟩;obtain ⟨g1, g2, g3⟩ := zma (w' := Lib.bytesWorld w e' ⟨l.toArray⟩) c (by omega) (fun b hb => Lib.bytesWorld_at_old _ _ _ b hb) (fun b o => b = w.heap.size) (fun b o h => by omega) rfl rfl rfl
 refine ⟨.slice (some ⟨w.heap.size, 0, none⟩) l.length (grownCap w l.length 0 e'), _, .inl ?_, ρ, _, g1, g2, g3, z22.2 ⟨some ⟨w.heap.size, 0, none⟩, grownCap w l.length 0 e', rfl, hge, by simp, .inr ⟨w.heap.size, 0, rfl, by omega, fun i y hy => ⟨?_, .inr rfl⟩⟩⟩⟩
 ·simp only [execOp, hop, hv, Sem.run_bind, hrun, Result.andThen_ok];simp [ByteArray.size]
 ·rw [Nat.zero_add, cell_of_heap hnew, List.getElem?_append_left (List.getElem?_eq_some_iff.1 hy).1];exact hy
theorem zo0 (op : Op) (ev ev' : Operand → AV) (H H' : Heap) (nid : Nat) (he : ∀ x ∈ op.operands, ev' x = ev x) (hr : ∀ id ∈ z1u ev op nid (z3d G op), H'[id]? = H[id]?) : z94 G op ev' H' nid = z94 G op ev H nid := by
 cases op with
 | buildSlice t len parts =>
  have h0 : H'[nid]? = H[nid]? := hr nid (by simp [z1u, z3d, upTo])
  have hp : (parts.toList.map fun p => ev' p.2) = parts.toList.map fun p => ev p.2 := by
   apply List.map_congr_left;intro p hp;rw [he p.2 (by simp only [Op.operands, List.mem_toArray, List.mem_map]; exact ⟨p, hp, rfl⟩)]
  have hd : ∀ id ∈ z4b (parts.toList.map fun p => ev p.2), H'[id]? = H[id]? := by
   intro id h;obtain ⟨a, h1, h2⟩ := zb9.1 h;obtain ⟨p, h3, rfl⟩ := List.mem_map.1 h1;refine hr id ?_;simp only [z1u];exact List.mem_append_left _ (z4h (x := p.2) (by simp only [Op.operands, List.mem_map]; exact ⟨p, h3, rfl⟩) (zu2 h2))
  have hz := zb0 (parts.toList.map fun p => ev p.2) hd
  have h0' : z34 (zm H' (z2a H (parts.toList.map fun p => ev p.2)).2.2) nid = z34 (zm H (z2a H (parts.toList.map fun p => ev p.2)).2.2) nid := z5r (z9g _ h0)
  simp only [z94, hp, hz, z6o, h0']
 | _ => rfl
theorem zq3 (op : Op) (ev ev' : Operand → AV) (he : ∀ x ∈ op.operands, ev' x = ev x) : zag G op ev' = zag G op ev := by
 cases op with
 | convert s d x => simp only [zag, he x (by simp [Op.operands])]
 | _ => rfl
end
section
variable {P : Program} (G : Env P)
def nilV : AV → Bool
 | .vec8 _ l => l.isEmpty
 | .vec _ _ l => l.isEmpty
 | _ => false
def isSl : AV → Bool
 | .vec8 _ _ => true
 | .vec _ _ _ => true
 | .vecr _ _ _ _ => true
 | .slv _ _ _ _ => true
 | .sl _ _ _ _ => true
 | _ => false
def z10p (t tx : Nat) (s x : AV) : Option Eff :=
 bif nilV x && isSl s then (match G.ty t, G.ty tx with
 | some ti, some tix => match ti.kind, tix.kind with
  | .slice e, .slice _ => match G.ty e with
   | some _ => some (.one true s [])
   | none => none
  | _, _ => none
 | _, _ => none) else none
def za1 (op : Op) (ev : Operand → AV) : Option Eff :=
 match op with
 | .call c => match c.callee with
  | .builtin .append => match c.args.toList, c.argTypes.toList with
   | [s, x], [t, tx] => z10p G t tx (ev s) (ev x)
   | _, _ => none
  | _ => none
 | _ => none
end
section
variable {P : Program} {G : Env P} {ρ : Rho} {I : Imm} {H : Heap} {w : World}
theorem z1c5 {s : AV} (h : isSl s = true) {v : Value} (r : rel ρ I w s v) : ∃ a len cap, v = .slice a len cap ∧ len ≤ cap := by
 cases s <;> simp only [isSl, Bool.false_eq_true] at h
 ·obtain h | ⟨h, a, rfl⟩ := z2j.1 r
  ·obtain ⟨b, cap, _, rfl, h3, _⟩ := h;exact ⟨_, _, _, rfl, h3⟩
  ·exact ⟨_, _, _, rfl, Nat.le_refl _⟩
 ·obtain ⟨a, cap, rfl, h2, _⟩ := z22.1 r;exact ⟨_, _, _, rfl, h2⟩
 ·obtain ⟨_, _, _, a, cap, rfl, h2, _⟩ := z2h.1 r;exact ⟨_, _, _, rfl, h2⟩
 ·obtain ⟨_, _, _, _, a, cap, rfl, h2, _⟩ := z1j.1 r;exact ⟨_, _, _, rfl, h2⟩
 ·obtain ⟨_, _, _, _, a, cap, rfl, h2, _⟩ := z1j.1 (z2r.1 r).1;exact ⟨_, _, _, rfl, h2⟩
theorem z19n {x : AV} (h : nilV x = true) {v : Value} (r : rel ρ I w x v) : ∃ a cap, v = .slice a 0 cap := by
 cases x <;> simp only [nilV, Bool.false_eq_true] at h
 ·obtain ⟨a, cap, rfl, _⟩ := z22.1 r;rw [List.isEmpty_iff.1 h];exact ⟨_, _, rfl⟩
 ·obtain ⟨_, _, _, a, cap, rfl, _⟩ := z2h.1 r;rw [List.isEmpty_iff.1 h];exact ⟨_, _, rfl⟩
theorem zxk (c : Conc G.g ρ I H w) {t tx ty : Nat} {s x : AV} {vs vx : Value} (rs : rel ρ I w s vs) (rx : rel ρ I w x vx) {E : Eff} {v : AV} {u : List (Nat × Ent)} (h : z10p G t tx s x = some E) (hh : E.has v u) : znk P G.g ρ I H w t tx ty vs vx v u := by
 unfold z10p at h;cases hc : (nilV x && isSl s) with
 | false => rw [hc] at h; simp at h
 | true =>
  rw [hc] at h;simp only [cond_true] at h;simp only [Bool.and_eq_true] at hc
  split at h
  ·rename_i ti tix hti htix;obtain ⟨j, d, _, q2, _, _, q5, _⟩ := z1a hti;obtain ⟨jx, dx, _, x2, _, _, x5, _⟩ := z1a htix
   split at h
   ·rename_i e e' hk hkx;rw [hk] at q5;obtain rfl := TK.of_slice q5;rw [hkx] at x5;obtain rfl := TK.of_slice x5
    split at h
    ·rename_i te hte;obtain ⟨je, de, e1, _⟩ := z1a hte;simp only [Option.some.injEq] at h;subst h;obtain ⟨_, rfl, rfl⟩ := hh;obtain ⟨a, len, cap, rfl, hle⟩ := z1c5 hc.2 rs;obtain ⟨a', cap', rfl⟩ := z19n hc.1 rx;have hsrc : Src P je.size tx (.slice a' 0 cap') 0 [] w := src_of x2 (by simp) (.inl rfl) (by simp)
     exact ⟨_, w, ρ, I, z6u (ty := ty) q2 e1 hle hsrc, Good.refl _ _ _ _, c, Mono.z1lu, rs⟩
    ·simp at h
   ·simp at h
  ·simp at h
theorem zht (c : Conc G.g ρ I H w) (ev : Operand → AV) (e : Operand → Value) (r : ∀ x, rel ρ I w (ev x) (e x)) (o : Oper) (E : Eff) (v : AV) (u : List (Nat × Ent)) (h : za1 G o.op ev = some E) (hh : E.has v u) :
  EffOk G ρ I H w ((execOp e o).run P w) v u := by
 unfold za1 at h
 split at h
 ·rename_i cl hop
  split at h
  ·rename_i hfo
   split at h
   ·rename_i s x t tx ha ht;have hargs : cl.args.map e = #[e s, e x] := by
     apply Array.toList_inj.1;simp [ha]
    have hat : cl.argTypes = #[t, tx] := by
     apply Array.toList_inj.1;simp [ht]
    refine EffOk.z1lw (s := Builtin.append_ #[t, tx] o.type #[e s, e x]) (fun y w' h => ?_) (zxk c (r s) (r x) h hh)
    rw [z3r hop hfo, hargs, hat];simp [builtin, h]
   ·simp at h
  ·simp at h
 ·simp at h
theorem zhx (op : Op) (ev ev' : Operand → AV) (he : ∀ x ∈ op.operands, ev' x = ev x) : za1 G op ev' = za1 G op ev := by
 cases op with
 | call c =>
  have hm : ∀ x ∈ c.args.toList, ev' x = ev x := fun x hx =>
   he x (by simp [Op.operands, Call.operands]; right; simpa using hx)
  simp only [za1]
  split
  ·split
   ·rename_i s x t tx ha ht;rw [hm s (by rw [ha]; simp), hm x (by rw [ha]; simp)]
   ·rfl
  ·rfl
 | _ => rfl
end
def ROps.cold {P : Program} {G : Env P} (R : ROps G) : ROps G where
 f := fun op ev H nid => match zb4 G op ev H nid with
  | some E => some E
  | none => match zag G op ev with
   | some E => some E
   | none => match z94 G op ev H nid with
    | some E => some E
    | none => match R.f op ev H nid with
     | some E => some E
     | none => za1 G op ev
 congr := fun op ev ev' H H' nid he hr => by rw [zd2 op ev ev' H H' nid he hr, zq3 op ev ev' he, zo0 op ev ev' H H' nid he hr, R.congr op ev ev' H H' nid he hr, zhx op ev ev' he]
 sound := fun ρ I H w c ev e r o nid E v u h hh => by
  split at h
  ·rename_i E' hE;simp only [Option.some.injEq] at h;subst h;exact zdh c ev e r o nid E' v u hE hh
  ·split at h
   ·rename_i E' hE;simp only [Option.some.injEq] at h;subst h;exact zoo c ev e r o E' v u hE hh
   ·split at h
    ·rename_i E' hE;simp only [Option.some.injEq] at h;subst h;exact zog c ev e r o nid E' v u hE hh
    ·split at h
     ·rename_i E' hE;simp only [Option.some.injEq] at h;subst h;exact R.sound ρ I H w c ev e r o nid E' v u hE hh
     ·exact zht c ev e r o E v u h hh
 pre := fun H args => some (z2a H args)
 preC := fun H H' args h => by
  rw [zb0 args fun id hid => by
   obtain ⟨a, h1, h2⟩ := zb9.1 hid;exact h a h1 id h2]
 preR := fun H args p args' u h a ha id hid => by
  simp only [Option.some.injEq] at h;have := zgl args H id (by rw [h]; exact zb9.2 ⟨a, ha, zui hid⟩)
  exact zb9.1 this
 preS := fun ρ I H w c args args' u h => by
  simp only [Option.some.injEq] at h;obtain ⟨I', f1, f2, f3, f4⟩ := zge (g := G.g) (ρ := ρ) (w := w) args I H c (by rw [h])
  rw [h] at f1 f2 f4;exact ⟨I', f1, f2, f3, f4⟩
def ROps.z1ms {P : Program} (G : Env P) : ROps G := (ROps.std G).cold
end
def zuh : AV → Prop
 | .agg l => ∀ a ∈ l, zha a
 | a => zha a
theorem ite2_true {x y : Prop} : za true x y = x := rfl
theorem ite2_false {x y : Prop} : za false x y = y := rfl
section
variable {P : Program} {G : Env P}
theorem z1bs {ρ : Rho} {I : Imm} {w : World} {a : AV} {xs : List Value} (h : R ρ I w a xs) : zha a := by
 cases a <;> first | trivial | exact h.2
theorem zu3 {ρ : Rho} {I : Imm} {w : World} : ∀ {l : List AV} {xs : List Value}, RL ρ I w l xs → ∀ a ∈ l, zha a
 | [], _, _, a, ha => by simp at ha
 | b :: bs, _, ⟨ys, zs, h0, h1, h2⟩, a, ha => by
  rcases List.mem_cons.1 ha with rfl | ha
  ·exact z1bs h1
  ·exact zu3 h2 a ha
theorem z10j {ρ : Rho} {I : Imm} {w : World} {a : AV} {v : Value} (h : rel ρ I w a v) : zuh a := by
 cases a <;> first | trivial | (obtain ⟨_, _, _, h⟩ := h; exact h) | (obtain ⟨_, _, h⟩ := h; exact zu3 h)
theorem zrl {ρ : Rho} {I : Imm} {w : World} : ∀ {l : List AV} {vs : List Value}, RV ρ I w l vs → ∀ a ∈ l, zuh a
 | [], _, _, a, ha => by simp at ha
 | b :: bs, _, ⟨x, xs, h0, h1, h2⟩, a, ha => by
  rcases List.mem_cons.1 ha with rfl | ha
  ·exact z10j h1
  ·exact zrl h2 a ha
theorem HCall.z1lm {f : FuncId} {args : List AV} {out : Out} (hp : zw args = true) (ho : out.okB = true) (h : (∀ a ∈ args, zuh a) → HCall G f args out) : HCall G f args out := by
 refine ⟨hp, ho, fun ρ I w vs c r => ?_⟩
 exact (h (zrl r)).call ρ I w vs c r
theorem HCall.z1lz {f : FuncId} {args : List AV} {b : Bool} {x y : Out} (hb : b = true) (hy : y.okB = true) (h : HCall G f args x) : HCall G f args (.alt b x y) := by
 subst hb;exact ⟨h.pa, by show (x.okB && y.okB) = true; rw [h.po, hy]; rfl, h.call⟩
theorem HCall.z1m0 {f : FuncId} {args : List AV} {b : Bool} {x y : Out} (hb : b = false) (hx : x.okB = true) (h : HCall G f args y) : HCall G f args (.alt b x y) := by
 subst hb;exact ⟨h.pa, by show (x.okB && y.okB) = true; rw [h.po, hx]; rfl, h.call⟩
end
end Go.V
namespace Go.Inv
open Go Go.V
def upTo (g : List AV) (i : Nat) : Prop := match g with
 | [.int _ n] => (i : Int) ≤ n
 | _ => False
def up (i : Nat) : Nat := 9223372036854775808 - i
theorem upTo_int {k : IntKind} {n : Int} {i : Nat} : upTo [.int k n] i ↔ (i : Int) ≤ n := Iff.rfl
theorem up_lt {i : Nat} (h : i < 9223372036854775807) : up (i + 1) < up i := by unfold up; omega
def count (keep : List Nat) (n j : Nat) : LPlan := .rel keep [n] Nat upTo up (fun i => [(j, .int .i64 (i : Nat))]) (fun _ => [])
end Go.Inv
namespace Go.V
open Go
noncomputable section
def zhi (nid : Nat) : List (Nat × Ent) → Option Ent
 | [] => none
 | (i, e) :: r => match zhi nid r with
  | some e' => some e'
  | none => bif i == nid then some e else none
theorem zqd {nid : Nat} : ∀ (u : List (Nat × Ent)) (H : Heap), nid < H.length → (zm H u)[nid]? = match zhi nid u with | some e => some e | none => H[nid]?
 | [], _, _ => rfl
 | (i, e) :: r, H, h => by
  rw [zm, zqd r _ (by rw [List.length_set]; exact h), zhi]
  cases zhi nid r with
  | some e' => rfl
  | none =>
   cases hb : i == nid with
   | true =>
    obtain rfl : i = nid := by simpa using hb
    simp [h]
   | false =>
    have : i ≠ nid := by simpa using hb
    simp [this]
def isAgg : AV → Bool
 | .agg _ => true
 | _ => false
def zow (nid id off k k' len : Nat) (rows : List AV) : Bool := ((id == nid && off == 0) && (k == k' && len == rows.length)) && ((k != 0 && len != 0) && (rows.all isAgg && rows.all fun r => okL r.cells))
def zjy (nid : Nat) : Eff → Eff
 | .one c v u => match v with
  | .sl id off k len => match zhi nid u with
   | some (.grow k' rows []) => bif zow nid id off k k' len rows then .one c (.slv nid k len (z4v rows)) (u ++ [(nid, .tail k len)]) else .one c v u
   | _ => .one c v u
  | _ => .one c v u
 | .br b x y => .br b (zjy nid x) (zjy nid y)
 | .ck b x => .ck b (zjy nid x)
 | .bad => .bad
theorem zdu {nid : Nat} : ∀ {E : Eff} {v : AV} {u : List (Nat × Ent)}, (zjy nid E).has v u → E.has v u ∨ ∃ k len rows u0, E.has (.sl nid 0 k len) u0 ∧ zhi nid u0 = some (.grow k rows []) ∧ zow nid nid 0 k k len rows = true ∧ v = .slv nid k len (z4v rows) ∧ u = u0 ++ [(nid, .tail k len)]
 | .one c v0 u0, v, u, h => by
  unfold zjy at h
  split at h
  ·rename_i id off k len
   split at h
   ·rename_i k' rows hl;cases hb : zow nid id off k k' len rows with
    | false => rw [hb] at h; exact .inl h
    | true =>
     rw [hb] at h;obtain ⟨h1, h2, h3⟩ := h;have hb' := hb;simp only [zow, Bool.and_eq_true, beq_iff_eq] at hb;obtain ⟨⟨⟨rfl, rfl⟩, rfl, _⟩, _⟩ := hb;exact .inr ⟨_, _, rows, u0, ⟨h1, rfl, rfl⟩, hl, hb', h2, h3⟩
   ·exact .inl h
  ·exact .inl h
 | .br b x y, v, u, h => by
  cases b with
  | true => rcases zdu (E := x) h with h | ⟨k, len, rows, u0, h1, h2⟩
            ·exact .inl h
            ·exact .inr ⟨k, len, rows, u0, h1, h2⟩
  | false => rcases zdu (E := y) h with h | ⟨k, len, rows, u0, h1, h2⟩
             ·exact .inl h
             ·exact .inr ⟨k, len, rows, u0, h1, h2⟩
 | .ck b x, v, u, h => by
  obtain ⟨hb, h⟩ := h;rcases zdu (E := x) h with h | ⟨k, len, rows, u0, h1, h2⟩
  ·exact .inl ⟨hb, h⟩
  ·exact .inr ⟨k, len, rows, u0, ⟨hb, h1⟩, h2⟩
 | .bad, _, _, h => h.elim
theorem z15y : ∀ {rows : List AV}, rows.all isAgg = true → z1i rows.length (z4v rows) = rows := by
 intro rows h;apply List.ext_getElem?;intro i;rcases Nat.lt_or_ge i rows.length with hi | hi
 ·rw [z95 hi, List.getElem?_eq_getElem hi];have := List.all_eq_true.1 h _ (List.getElem_mem hi);unfold z4v;rw [List.getD_eq_getElem?_getD, List.getElem?_eq_getElem hi];show some (AV.agg (rows[i]).cells) = _;cases hr : rows[i] with
  | agg l => rfl
  | _ => rw [hr] at this; cases this
 ·rw [List.getElem?_eq_none (by rw [z4z]; exact hi), List.getElem?_eq_none hi]
section
variable {P : Program} {G : Env P} {ρ : Rho} {I : Imm} {H : Heap} {w : World}
theorem z1jt {res : Result Next} {nid k len : Nat} {rows : List AV} {u : List (Nat × Ent)} (h : EffOk G ρ I H w res (.sl nid 0 k len) u) (hl : zhi nid u = some (.grow k rows [])) (ho : zow nid nid 0 k k len rows = true) :
  EffOk G ρ I H w res (.slv nid k len (z4v rows)) (u ++ [(nid, .tail k len)]) := by
 obtain ⟨x, w', hres, ρ', I', gd, c, mo, r⟩ := h;simp only [zow, Bool.and_eq_true, beq_iff_eq, bne_iff_ne] at ho;obtain ⟨⟨_, _, rfl⟩, ⟨hk, h0⟩, h1, h2⟩ := ho;have hs := z2j.1 r;have hlt : nid < H.length := by
  rcases hs with ⟨b, cap, hb, _⟩ | ⟨h, _⟩
  ·have := c.dom nid (by rw [hb]; simp)
   rwa [z79] at this
  ·exact absurd h h0
 have hid : (zm H u)[nid]? = some (.grow k (z1i rows.length (z4v rows)) []) := by
  rw [zqd u H hlt, hl, z15y h1]
 have hok : ∀ i, i < rows.length → okL (z4v rows i) = true := by
  intro i hi;have := List.all_eq_true.1 h2 _ (List.getElem_mem hi);unfold z4v;rw [List.getD_eq_getElem?_getD, List.getElem?_eq_getElem hi];exact this
 obtain ⟨I2, t1, t2, t3, t4⟩ := ztv c hid (fun o h => by obtain ⟨_, h, _⟩ := h; simp at h) hk hok hs gd (fun o b _ h => by obtain ⟨_, h, _⟩ := h; simp at h)
 refine ⟨x, w', hres, ρ', I2, ?_, ?_, mo.trans' t3, t4⟩
 ·rw [z1h]; exact t1
 ·rw [z1h]; exact t2
end
def zy2 : Op → Bool
 | .buildSlice _ _ _ => true
 | _ => false
def ROps.told {P : Program} {G : Env P} (R : ROps G) : ROps G where
 f := fun op ev H nid => match R.f op ev H nid with
  | some E => some (bif zy2 op then zjy nid E else E)
  | none => none
 congr := fun op ev ev' H H' nid he hr => by rw [R.congr op ev ev' H H' nid he hr]
 sound := fun ρ I H w c ev e r o nid E v u h hh => by
  split at h
  ·rename_i E' hE;simp only [Option.some.injEq] at h;subst h;cases hb : zy2 o.op with
   | false => rw [hb] at hh; exact R.sound ρ I H w c ev e r o nid E' v u hE hh
   | true =>
    rw [hb] at hh;rcases zdu hh with hh | ⟨k, len, rows, u0, h1, h2, h3, rfl, rfl⟩
    ·exact R.sound ρ I H w c ev e r o nid E' v u hE hh
    ·exact z1jt (R.sound ρ I H w c ev e r o nid E' _ u0 hE h1) h2 h3
  ·cases h
 pre := R.pre
 preC := R.preC
 preR := R.preR
 preS := R.preS
end
noncomputable section
def isS : Value → Bool
 | .int _ _ => true
 | .bool _ => true
 | .string _ => true
 | .slice none 0 0 => true
 | _ => false
def zdp : AV → AV
 | .raw (.agg cs) => bif cs.toList.all isS then .agg (cs.toList.map z86) else .raw (.agg cs)
 | a => a
theorem zxj (k : IntKind) (n : Int) : z1w (ofInt k n) = false ∧ ofInt k n ≠ .any ∧ z3v (ofInt k n) = [] := by
 cases k <;> simp only [ofInt] <;> first | exact ⟨rfl, by simp, rfl⟩ | (split <;> exact ⟨rfl, by simp, rfl⟩) | skip
 all_goals (cases inB n _ <;> exact ⟨rfl, by simp, rfl⟩)
theorem zkx {v : Value} (h : isS v = true) : z1w (z86 v) = false ∧ z86 v ≠ .any ∧ z3v (z86 v) = [] := by
 unfold isS at h
 split at h
 ·exact zxj _ _
 ·exact ⟨rfl, by simp [z86], rfl⟩
 ·exact ⟨rfl, by simp [z86], rfl⟩
 ·exact ⟨rfl, by simp [z86], rfl⟩
 ·cases h
theorem z1cb {ρ : Rho} {I : Imm} {w : World} {v : Value} (h : isS v = true) : R ρ I w (z86 v) [v] := by
 obtain ⟨h1, h2, _⟩ := zkx h;have := (z8l h2).1 (zr4 (ρ := ρ) (I := I) (w := w) v);rw [if_neg (by rw [h1]; simp)] at this
 exact this
theorem z16i {ρ : Rho} {I : Imm} {w : World} {a : AV} {v : Value} (r : rel ρ I w a v) : rel ρ I w (zdp a) v := by
 unfold zdp
 split
 ·rename_i cs;cases hb : cs.toList.all isS with
  | false => exact r
  | true =>
   obtain rfl := zfm.1 r;refine z2w.2 ⟨cs, rfl, ?_⟩;have : ∀ l : List Value, l.all isS = true → RL ρ I w (l.map z86) l := by
    intro l
    induction l with
    | nil => intro _; exact zv8.2 rfl
    | cons c l ih =>
     intro h;rw [List.all_cons, Bool.and_eq_true] at h;exact z12.2 ⟨[c], l, rfl, z1cb h.1, ih h.2⟩
   exact this _ hb
 ·exact r
theorem zqw (a : AV) : z1p (zdp a) = z1p a := by
 unfold zdp
 split
 ·rename_i cs;cases hb : cs.toList.all isS with
  | false => rfl
  | true =>
   have : ∀ l : List Value, l.all isS = true → z4b (l.map z86) = [] := by
    intro l
    induction l with
    | nil => intro _; rfl
    | cons c l ih =>
     intro h;rw [List.all_cons, Bool.and_eq_true] at h;rw [List.map_cons, z4b, (zkx h.1).2.2, ih h.2];rfl
   exact this _ hb
 ·rfl
theorem zuz (ev : Operand → AV) (l : List Operand) : zi6 (fun x => zdp (ev x)) l = zi6 ev l := by
 unfold zi6
 induction l with
 | nil => rfl
 | cons a l ih => rw [List.flatMap_cons, List.flatMap_cons, ih, zqw]
theorem zxe (ev : Operand → AV) (op : Op) (nid n : Nat) : z1u (fun x => zdp (ev x)) op nid n = z1u ev op nid n := by
 cases op <;> first | rfl | exact zqw _ | (simp only [z1u, zuz])
def ROps.aggc {P : Program} {G : Env P} (R : ROps G) : ROps G where
 f := fun op ev H nid => R.f op (fun x => zdp (ev x)) H nid
 congr := fun op ev ev' H H' nid he hr => R.congr op _ _ H H' nid (fun x hx => by rw [he x hx]) (fun id hid => hr id (by rw [zxe] at hid; exact hid))
 sound := fun ρ I H w c ev e r o nid E v u h hh => R.sound ρ I H w c (fun x => zdp (ev x)) e (fun x => z16i (r x)) o nid E v u h hh
 pre := R.pre
 preC := R.preC
 preR := R.preR
 preS := R.preS
end
end Go.V