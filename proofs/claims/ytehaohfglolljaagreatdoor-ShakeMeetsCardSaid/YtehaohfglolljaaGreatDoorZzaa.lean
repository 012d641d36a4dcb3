import Derived.WalkKit
set_option linter.unusedSimpArgs false
set_option linter.unusedVariables false
namespace Go.V
theorem spE {α β : Type _} {a c : α} {b d : β} (h : some (a, b) = some (c, d)) : a = c ∧ b = d := by simpa using h
open Go
inductive AV where
 | any
 | raw (v : Value)
 | int (k : IntKind) (n : Int)
 | u8 (x : UInt8)
 | u32 (x : UInt32)
 | u64 (x : UInt64)
 | bool (b : Bool)
 | str (s : List UInt8)
 | b8 (n : Nat) (l : List UInt8)
 | w32 (n : Nat) (l : List UInt32)
 | w64 (n : Nat) (l : List UInt64)
 | n64 (n : Nat) (l : List Int)
 | ptr (id off : Nat)
 | pix (id off n : Nat) (i : Int)
 | sl (id off k len : Nat)
 | vec8 (full : Bool) (l : List UInt8)
 | vec (full : Bool) (k : Nat) (rows : List AV)
 | vecr (full : Bool) (k n : Nat) (f : Nat → List AV)
 | slv (id k n : Nat) (f : Nat → List AV)
 | vp (cells : List AV) (i : Nat)
 | vpx (cells : List AV) (off n : Nat) (i : Int)
 | fn (f : Fn) (first caps : List AV)
 | agg (l : List AV)
 | tup (l : List AV)
 deriving Inhabited
abbrev Rho := Nat → Option (Option Nat)
abbrev Imm := Nat → Nat → Prop
def bsz (w : World) (b : Nat) : Nat :=
 match w.heap[b]? with
 | some (.cells c _ _) => c.size
 | _ => 0
mutual
def z1b : AV → Bool
 | .ptr _ _ => false
 | .pix _ _ _ _ => false
 | .sl _ _ _ _ => false
 | .slv _ _ _ _ => false
 | .vec _ _ rows => zw rows
 | .vp cells _ => zw cells
 | .vpx cells _ _ _ => zw cells
 | .fn _ a b => zw a && zw b
 | .agg l => zw l
 | .tup l => zw l
 | _ => true
def zw : List AV → Bool
 | [] => true
 | a :: as => z1b a && zw as
end
mutual
def zbq : AV → Bool
 | .any => false
 | .raw v => v.oneCell'
 | .tup _ => false
 | .agg l => z7e l
 | _ => true
def z7e : List AV → Bool
 | [] => true
 | a :: as => zbq a && z7e as
end
def okL (l : List AV) : Bool := zw l && z7e l
theorem z3u {l : List AV} (h : okL l = true) : zw l = true := by
 simp only [okL, Bool.and_eq_true] at h; exact h.1
theorem zg2 {l : List AV} (h : okL l = true) : z7e l = true := by
 simp only [okL, Bool.and_eq_true] at h; exact h.2
mutual
def szA : AV → Nat
 | .b8 n _ => n
 | .w32 n _ => n
 | .w64 n _ => n
 | .n64 n _ => n
 | .agg l => szL l
 | _ => 1
def szL : List AV → Nat
 | [] => 0
 | a :: as => szA a + szL as
end
def z1w : AV → Bool
 | .b8 _ _ => true
 | .w32 _ _ => true
 | .w64 _ _ => true
 | .n64 _ _ => true
 | .agg _ => true
 | _ => false
def v8 (l : List UInt8) : List Value := l.map fun x => .int .u8 x.toNat
def v32 (l : List UInt32) : List Value := l.map fun x => .int .u32 x.toNat
def v64 (l : List UInt64) : List Value := l.map fun x => .int .u64 x.toNat
def zae (l : List Int) : List Value := l.map fun x => .int .i64 x
def Lies (I : Imm) (w : World) (b off : Nat) (vs : List Value) : Prop :=
 ∀ i x, vs[i]? = some x → w.cell? ⟨b, off + i, none⟩ = some x ∧ I b (off + i)
def vecR (I : Imm) (w : World) (full : Bool) (len : Nat) (vs : List Value) (v : Value) : Prop :=
 ∃ a cap, v = .slice a len cap ∧ len ≤ cap ∧ (full = true → cap = len) ∧ (len = 0 ∨ ∃ b off, a = some ⟨b, off, none⟩ ∧ b < w.heap.size ∧ Lies I w b off vs)
def slR (ρ : Rho) (w : World) (id off k len : Nat) (v : Value) : Prop :=
 (∃ b cap, ρ id = some (some b) ∧ v = .slice (some ⟨b, off, none⟩) len cap ∧ len ≤ cap ∧ b < w.heap.size ∧ off + cap * k ≤ bsz w b) ∨ (len = 0 ∧ ∃ a, v = .slice a 0 0)
def vpR (I : Imm) (w : World) (i : Nat) (vs : List Value) (v : Value) : Prop :=
 ∃ b off, v = .pointer (some ⟨b, off + i, none⟩) ∧ Lies I w b off vs
def valOf (a : AV) (v : Value) (Ra : List Value → Prop) : Prop :=
 match a with
 | .any => True
 | .agg _ => ∃ cs : Array Value, v = .agg cs ∧ Ra cs.toList
 | .b8 _ _ => ∃ cs : Array Value, v = .agg cs ∧ Ra cs.toList
 | .w32 _ _ => ∃ cs : Array Value, v = .agg cs ∧ Ra cs.toList
 | .w64 _ _ => ∃ cs : Array Value, v = .agg cs ∧ Ra cs.toList
 | .n64 _ _ => ∃ cs : Array Value, v = .agg cs ∧ Ra cs.toList
 | _ => Ra [v]
mutual
def R (ρ : Rho) (I : Imm) (w : World) : AV → List Value → Prop
 | .any, xs => ∃ x, xs = [x]
 | .raw v, xs => xs = [v]
 | .int k n, xs => xs = [.int k n]
 | .u8 x, xs => xs = [.int .u8 x.toNat]
 | .u32 x, xs => xs = [.int .u32 x.toNat]
 | .u64 x, xs => xs = [.int .u64 x.toNat]
 | .bool b, xs => xs = [.bool b]
 | .str s, xs => xs = [.string ⟨s.toArray⟩]
 | .b8 n l, xs => xs = v8 l ∧ l.length = n
 | .w32 n l, xs => xs = v32 l ∧ l.length = n
 | .w64 n l, xs => xs = v64 l ∧ l.length = n
 | .n64 n l, xs => xs = zae l ∧ l.length = n
 | .ptr id off, xs => ∃ v, xs = [v] ∧ ∃ b, ρ id = some (some b) ∧ v = .pointer (some ⟨b, off, none⟩)
 | .pix id off n i, xs => ∃ v, xs = [v] ∧ ∃ b, ρ id = some (some b) ∧ (0 ≤ i ∧ i < n) ∧ v = .pointer (some ⟨b, off + i.toNat, none⟩)
 | .sl id off k len, xs => ∃ v, xs = [v] ∧ slR ρ w id off k len v
 | .vec8 full l, xs => ∃ v, xs = [v] ∧ vecR I w full l.length (v8 l) v
 | .vec full k rows, xs => ∃ v, xs = [v] ∧ (∀ a ∈ rows, szA a = k) ∧ ∃ vs, RL ρ I w rows vs ∧ vecR I w full rows.length vs v
 | .vecr full k n f, xs => ∃ v, xs = [v] ∧ (∀ i, i < n → okL (f i) = true) ∧ ∃ vs, vs.length = n * k ∧ (∀ i, i < n → RL ρ I w (f i) ((vs.drop (i * k)).take k)) ∧ vecR I w full n vs v
 | .slv id k n f, xs => ∃ v, xs = [v] ∧ (∀ i, i < n → okL (f i) = true) ∧ (∃ vs, vs.length = n * k ∧ (∀ i, i < n → RL ρ I w (f i) ((vs.drop (i * k)).take k)) ∧ vecR I w false n vs v) ∧ slR ρ w id 0 k n v
 | .vp cells i, xs => ∃ v, xs = [v] ∧ ∃ vs, RL ρ I w cells vs ∧ vpR I w i vs v
 | .vpx cells off n i, xs => ∃ v, xs = [v] ∧ (0 ≤ i ∧ i < n) ∧ ∃ vs, RL ρ I w cells vs ∧ vpR I w (off + i.toNat) vs v
 | .fn f first caps, xs => ∃ v, xs = [v] ∧ ∃ x y : Array Value, v = .func f x y ∧ RV ρ I w first x.toList ∧ RV ρ I w caps y.toList
 | .agg l, xs => RL ρ I w l xs
 | .tup l, xs => ∃ v, xs = [v] ∧ ∃ cs : Array Value, v = .tuple cs ∧ RV ρ I w l cs.toList
def RL (ρ : Rho) (I : Imm) (w : World) : List AV → List Value → Prop
 | [], xs => xs = []
 | a :: as, xs => ∃ ys zs, xs = ys ++ zs ∧ R ρ I w a ys ∧ RL ρ I w as zs
def RV (ρ : Rho) (I : Imm) (w : World) : List AV → List Value → Prop
 | [], vs => vs = []
 | a :: as, vs => ∃ x xs, vs = x :: xs ∧ valOf a x (R ρ I w a) ∧ RV ρ I w as xs
end
def rel (ρ : Rho) (I : Imm) (w : World) (a : AV) (v : Value) : Prop := valOf a v (R ρ I w a)
structure Mono (ρ : Rho) (I : Imm) (w : World) (ρ' : Rho) (I' : Imm) (w' : World) : Prop where
 ext : ∀ id x, ρ id = some x → ρ' id = some x
 imm : ∀ b o, I b o → I' b o ∧ w'.cell? ⟨b, o, none⟩ = w.cell? ⟨b, o, none⟩
 sz : ∀ b, b < w.heap.size → b < w'.heap.size ∧ bsz w' b = bsz w b
theorem Mono.none {ρ : Rho} {I : Imm} {w : World} {ρ' : Rho} {I' : Imm} {w' : World} (m : Mono ρ I w ρ' I' w') : Mono (fun _ => none) I w (fun _ => none) I' w' :=
 ⟨fun _ _ h => h, m.imm, m.sz⟩
theorem Lies.mono {I I' : Imm} {w w' : World} (h : ∀ b o, I b o → I' b o ∧ w'.cell? ⟨b, o, none⟩ = w.cell? ⟨b, o, none⟩) {b off : Nat} {vs : List Value}
  (hl : Lies I w b off vs) : Lies I' w' b off vs := fun i x hx => by
 obtain ⟨h1, h2⟩ := hl i x hx;exact ⟨(h _ _ h2).2.trans h1, (h _ _ h2).1⟩
section mono
variable {ρ : Rho} {I : Imm} {w : World} {ρ' : Rho} {I' : Imm} {w' : World}
theorem vecR.mono (m : Mono ρ I w ρ' I' w') {full : Bool} {len : Nat} {vs : List Value} {v : Value} (h : vecR I w full len vs v) : vecR I' w' full len vs v := by
 obtain ⟨a, cap, h1, h2, h3, h4⟩ := h;exact ⟨a, cap, h1, h2, h3, h4.imp id fun ⟨b, off, k1, k2, k3⟩ => ⟨b, off, k1, (m.sz b k2).1, k3.mono m.imm⟩⟩
theorem slR.mono (m : Mono ρ I w ρ' I' w') {id off k len : Nat} {v : Value} (h : slR ρ w id off k len v) : slR ρ' w' id off k len v := by
 rcases h with ⟨b, cap, h1, h2, h3, h4, h5⟩ | h
 ·exact .inl ⟨b, cap, m.ext _ _ h1, h2, h3, (m.sz b h4).1, (m.sz b h4).2 ▸ h5⟩
 ·exact .inr h
theorem vpR.mono (m : Mono ρ I w ρ' I' w') {i : Nat} {vs : List Value} {v : Value} (h : vpR I w i vs v) : vpR I' w' i vs v := by
 obtain ⟨b, off, h1, h2⟩ := h;exact ⟨b, off, h1, h2.mono m.imm⟩
theorem valOf.imp {a : AV} {v : Value} {Ra Ra' : List Value → Prop} (h : ∀ xs, Ra xs → Ra' xs) (hv : valOf a v Ra) : valOf a v Ra' := by
 cases a <;> simp only [valOf] at hv ⊢ <;> first | trivial | exact h _ hv | (obtain ⟨cs, h1, h2⟩ := hv; exact ⟨cs, h1, h _ h2⟩)
mutual
theorem zdk (m : Mono ρ I w ρ' I' w') : ∀ (a : AV) (xs : List Value), R ρ I w a xs → R ρ' I' w' a xs
 | .any, _, h => h
 | .raw _, _, h => h
 | .int _ _, _, h => h
 | .u8 _, _, h => h
 | .u32 _, _, h => h
 | .u64 _, _, h => h
 | .bool _, _, h => h
 | .str _, _, h => h
 | .b8 _ _, _, h => h
 | .w32 _ _, _, h => h
 | .w64 _ _, _, h => h
 | .n64 _ _, _, h => h
 | .ptr _ _, _, ⟨v, h0, b, h1, h2⟩ => ⟨v, h0, b, m.ext _ _ h1, h2⟩
 | .pix _ _ _ _, _, ⟨v, h0, b, h1, h2, h3⟩ => ⟨v, h0, b, m.ext _ _ h1, h2, h3⟩
 | .sl _ _ _ _, _, ⟨v, h0, h1⟩ => ⟨v, h0, h1.mono m⟩
 | .vec8 _ _, _, ⟨v, h0, h1⟩ => ⟨v, h0, h1.mono m⟩
 | .vec _ _ rows, _, ⟨v, h0, h1, vs, h2, h3⟩ => ⟨v, h0, h1, vs, z15 m rows vs h2, h3.mono m⟩
 | .vecr _ _ _ f, _, ⟨v, h0, h1, vs, hl, h2, h3⟩ => ⟨v, h0, h1, vs, hl, fun i hi => z15 m (f i) _ (h2 i hi), h3.mono m⟩
 | .slv _ _ _ f, _, ⟨v, h0, h1, ⟨vs, hl, h2, h3⟩, h4⟩ => ⟨v, h0, h1, ⟨vs, hl, fun i hi => z15 m (f i) _ (h2 i hi), h3.mono m⟩, h4.mono m⟩
 | .vp cells _, _, ⟨v, h0, vs, h2, h3⟩ => ⟨v, h0, vs, z15 m cells vs h2, h3.mono m⟩
 | .vpx cells _ _ _, _, ⟨v, h0, h1, vs, h2, h3⟩ => ⟨v, h0, h1, vs, z15 m cells vs h2, h3.mono m⟩
 | .fn _ first caps, _, ⟨v, h0, x, y, h1, h2, h3⟩ => ⟨v, h0, x, y, h1, z7v m first _ h2, z7v m caps _ h3⟩
 | .agg l, _, h => z15 m l _ h
 | .tup l, _, ⟨v, h0, cs, h1, h2⟩ => ⟨v, h0, cs, h1, z7v m l _ h2⟩
theorem z15 (m : Mono ρ I w ρ' I' w') : ∀ (l : List AV) (xs : List Value), RL ρ I w l xs → RL ρ' I' w' l xs
 | [], _, h => h
 | a :: as, _, ⟨ys, zs, h0, h1, h2⟩ => ⟨ys, zs, h0, zdk m a ys h1, z15 m as zs h2⟩
theorem z7v (m : Mono ρ I w ρ' I' w') : ∀ (l : List AV) (vs : List Value), RV ρ I w l vs → RV ρ' I' w' l vs
 | [], _, h => h
 | a :: as, _, ⟨x, xs, h0, h1, h2⟩ => ⟨x, xs, h0, h1.imp (zdk m a), z7v m as xs h2⟩
end
theorem z8o (m : Mono ρ I w ρ' I' w') {a : AV} {v : Value} (h : rel ρ I w a v) : rel ρ' I' w' a v := valOf.imp (zdk m a) h
end mono
section lists
variable {ρ : Rho} {I : Imm} {w : World}
theorem zu {x : UInt8} {v : Value} : rel ρ I w (.u8 x) v ↔ v = .int .u8 x.toNat := by simp [rel, valOf, R]
theorem zo {x : UInt32} {v : Value} : rel ρ I w (.u32 x) v ↔ v = .int .u32 x.toNat := by simp [rel, valOf, R]
theorem zn {x : UInt64} {v : Value} : rel ρ I w (.u64 x) v ↔ v = .int .u64 x.toNat := by simp [rel, valOf, R]
theorem zj {k : IntKind} {n : Int} {v : Value} : rel ρ I w (.int k n) v ↔ v = .int k n := by simp [rel, valOf, R]
theorem zl {b : Bool} {v : Value} : rel ρ I w (.bool b) v ↔ v = .bool b := by simp [rel, valOf, R]
theorem zi {s : List UInt8} {v : Value} : rel ρ I w (.str s) v ↔ v = .string ⟨s.toArray⟩ := by simp [rel, valOf, R]
theorem zfm {x : Value} {v : Value} : rel ρ I w (.raw x) v ↔ v = x := by simp [rel, valOf, R]
theorem zf9 {v : Value} : rel ρ I w .any v := trivial
theorem z4a {id off : Nat} {v : Value} : rel ρ I w (.ptr id off) v ↔ ∃ b, ρ id = some (some b) ∧ v = .pointer (some ⟨b, off, none⟩) := by
 simp only [rel, valOf, R]; constructor
 ·rintro ⟨_, h, h1⟩; simp only [List.cons.injEq, and_true] at h; subst h; exact h1
 ·intro h; exact ⟨_, rfl, h⟩
theorem zg6 {id off n : Nat} {i : Int} {v : Value} : rel ρ I w (.pix id off n i) v ↔ ∃ b, ρ id = some (some b) ∧ (0 ≤ i ∧ i < n) ∧ v = .pointer (some ⟨b, off + i.toNat, none⟩) := by
 simp only [rel, valOf, R]; constructor
 ·rintro ⟨_, h, h1⟩; simp only [List.cons.injEq, and_true] at h; subst h; exact h1
 ·intro h; exact ⟨_, rfl, h⟩
theorem z2j {id off k len : Nat} {v : Value} : rel ρ I w (.sl id off k len) v ↔ slR ρ w id off k len v := by
 simp only [rel, valOf, R]; constructor
 ·rintro ⟨_, h, h1⟩; simp only [List.cons.injEq, and_true] at h; subst h; exact h1
 ·intro h; exact ⟨_, rfl, h⟩
theorem z22 {full : Bool} {l : List UInt8} {v : Value} : rel ρ I w (.vec8 full l) v ↔ vecR I w full l.length (v8 l) v := by
 simp only [rel, valOf, R]; constructor
 ·rintro ⟨_, h, h1⟩; simp only [List.cons.injEq, and_true] at h; subst h; exact h1
 ·intro h; exact ⟨_, rfl, h⟩
theorem z2h {full : Bool} {k : Nat} {rows : List AV} {v : Value} : rel ρ I w (.vec full k rows) v ↔ (∀ a ∈ rows, szA a = k) ∧ ∃ vs, RL ρ I w rows vs ∧ vecR I w full rows.length vs v := by
 simp only [rel, valOf, R]; constructor
 ·rintro ⟨_, h, h1⟩; simp only [List.cons.injEq, and_true] at h; subst h; exact h1
 ·intro h; exact ⟨_, rfl, h⟩
theorem z1j {full : Bool} {k n : Nat} {f : Nat → List AV} {v : Value} : rel ρ I w (.vecr full k n f) v ↔ (∀ i, i < n → okL (f i) = true) ∧ ∃ vs, vs.length = n * k ∧ (∀ i, i < n → RL ρ I w (f i) ((vs.drop (i * k)).take k)) ∧ vecR I w full n vs v := by
 simp only [rel, valOf, R]; constructor
 ·rintro ⟨_, h, h1⟩; simp only [List.cons.injEq, and_true] at h; subst h; exact h1
 ·intro h; exact ⟨_, rfl, h⟩
theorem z2r {id k n : Nat} {f : Nat → List AV} {v : Value} : rel ρ I w (.slv id k n f) v ↔ rel ρ I w (.vecr false k n f) v ∧ slR ρ w id 0 k n v := by
 rw [z1j];simp only [rel, valOf, R]; constructor
 ·rintro ⟨_, h, h1, h2, h3⟩; simp only [List.cons.injEq, and_true] at h; subst h; exact ⟨⟨h1, h2⟩, h3⟩
 ·intro ⟨⟨h1, h2⟩, h3⟩; exact ⟨_, rfl, h1, h2, h3⟩
theorem z6i {cells : List AV} {i : Nat} {v : Value} : rel ρ I w (.vp cells i) v ↔ ∃ vs, RL ρ I w cells vs ∧ vpR I w i vs v := by
 simp only [rel, valOf, R]; constructor
 ·rintro ⟨_, h, h1⟩; simp only [List.cons.injEq, and_true] at h; subst h; exact h1
 ·intro h; exact ⟨_, rfl, h⟩
theorem zfb {cells : List AV} {off n : Nat} {i : Int} {v : Value} : rel ρ I w (.vpx cells off n i) v ↔ (0 ≤ i ∧ i < n) ∧ ∃ vs, RL ρ I w cells vs ∧ vpR I w (off + i.toNat) vs v := by
 simp only [rel, valOf, R]; constructor
 ·rintro ⟨_, h, h1⟩; simp only [List.cons.injEq, and_true] at h; subst h; exact h1
 ·intro h; exact ⟨_, rfl, h⟩
theorem zg9 {f : Fn} {first caps : List AV} {v : Value} : rel ρ I w (.fn f first caps) v ↔ ∃ x y : Array Value, v = .func f x y ∧ RV ρ I w first x.toList ∧ RV ρ I w caps y.toList := by
 simp only [rel, valOf, R]; constructor
 ·rintro ⟨_, h, h1⟩; simp only [List.cons.injEq, and_true] at h; subst h; exact h1
 ·intro h; exact ⟨_, rfl, h⟩
theorem z49 {l : List AV} {v : Value} : rel ρ I w (.tup l) v ↔ ∃ cs : Array Value, v = .tuple cs ∧ RV ρ I w l cs.toList := by
 simp only [rel, valOf, R]; constructor
 ·rintro ⟨_, h, h1⟩; simp only [List.cons.injEq, and_true] at h; subst h; exact h1
 ·intro h; exact ⟨_, rfl, h⟩
theorem z2w {l : List AV} {v : Value} : rel ρ I w (.agg l) v ↔ ∃ cs : Array Value, v = .agg cs ∧ RL ρ I w l cs.toList := by simp [rel, valOf, R]
theorem zfr {n : Nat} {l : List UInt8} {v : Value} : rel ρ I w (.b8 n l) v ↔ ∃ cs : Array Value, v = .agg cs ∧ cs.toList = v8 l ∧ l.length = n := by simp [rel, valOf, R]
theorem zfl {n : Nat} {l : List UInt32} {v : Value} : rel ρ I w (.w32 n l) v ↔ ∃ cs : Array Value, v = .agg cs ∧ cs.toList = v32 l ∧ l.length = n := by simp [rel, valOf, R]
theorem zf2 {n : Nat} {l : List UInt64} {v : Value} : rel ρ I w (.w64 n l) v ↔ ∃ cs : Array Value, v = .agg cs ∧ cs.toList = v64 l ∧ l.length = n := by simp [rel, valOf, R]
theorem zzz {n : Nat} {l : List Int} {v : Value} : rel ρ I w (.n64 n l) v ↔ ∃ cs : Array Value, v = .agg cs ∧ cs.toList = zae l ∧ l.length = n := by simp [rel, valOf, R]
theorem z5k {vs : List Value} : RV ρ I w [] vs ↔ vs = [] := by simp [RV]
theorem zr {a : AV} {as : List AV} {vs : List Value} : RV ρ I w (a :: as) vs ↔ ∃ x xs, vs = x :: xs ∧ rel ρ I w a x ∧ RV ρ I w as xs := by simp [RV, rel]
theorem zv8 {vs : List Value} : RL ρ I w [] vs ↔ vs = [] := by simp [RL]
theorem z12 {a : AV} {as : List AV} {xs : List Value} : RL ρ I w (a :: as) xs ↔ ∃ ys zs, xs = ys ++ zs ∧ R ρ I w a ys ∧ RL ρ I w as zs := by simp [RL]
theorem zf7 : ∀ {l : List AV} {vs : List Value}, RV ρ I w l vs → l.length = vs.length
 | [], _, h => by rw [z5k] at h; simp [h]
 | a :: as, _, h => by
  obtain ⟨x, xs, rfl, _, h3⟩ := zr.1 h;simp [zf7 h3]
theorem zd6 {l : List AV} : ∀ {vs : List Value}, RV ρ I w l vs ↔ l.length = vs.length ∧ ∀ (i : Nat) (a : AV) (x : Value), l[i]? = some a → vs[i]? = some x → rel ρ I w a x := by
 induction l with
 | nil => intro vs; rw [z5k]; constructor
          ·rintro rfl; simp
          ·rintro ⟨h, _⟩; exact List.eq_nil_of_length_eq_zero h.symm
 | cons a as ih =>
  intro vs;rw [zr];constructor
  ·rintro ⟨x, xs, rfl, h1, h2⟩;obtain ⟨g1, g2⟩ := ih.1 h2;refine ⟨by simp [g1], fun i b y hb hy => ?_⟩
   cases i with
   | zero => simp at hb hy; subst hb; subst hy; exact h1
   | succ i => simp at hb hy; exact g2 i b y hb hy
  ·rintro ⟨h1, h2⟩;cases vs with
   | nil => simp at h1
   | cons x xs =>
    refine ⟨x, xs, rfl, h2 0 a x rfl rfl, ih.2 ⟨by simpa using h1, fun i b y hb hy => h2 (i + 1) b y (by simpa using hb) (by simpa using hy)⟩⟩
theorem z1h0 {l : List AV} {vs : List Value} (h : RV ρ I w l vs) {i : Nat} {a : AV} (ha : l[i]? = some a) : ∃ x, vs[i]? = some x ∧ rel ρ I w a x := by
 obtain ⟨h1, h2⟩ := zd6.1 h;have hi : i < vs.length := by
  have := (List.getElem?_eq_some_iff.1 ha).1; omega
 exact ⟨vs[i], by simp [hi], h2 i a _ ha (by simp [hi])⟩
theorem zch {l : List AV} {vs : List Value} (h : RV ρ I w l vs) (i : Nat) : rel ρ I w (l.getD i .any) (vs.getD i undef) := by
 rw [List.getD_eq_getElem?_getD, List.getD_eq_getElem?_getD];cases ha : l[i]? with
 | none => exact zf9
 | some a =>
  obtain ⟨x, hx, hr⟩ := z1h0 h ha;simpa [hx] using hr
theorem zii {l l' : List AV} {vs vs' : List Value} (h : RV ρ I w l vs) (h' : RV ρ I w l' vs') : RV ρ I w (l ++ l') (vs ++ vs') := by
 induction l generalizing vs with
 | nil => rw [z5k] at h; subst h; simpa using h'
 | cons a as ih =>
  obtain ⟨x, xs, rfl, h1, h2⟩ := zr.1 h;exact zr.2 ⟨x, xs ++ vs', rfl, h1, ih h2⟩
theorem z1f3 {l : List AV} {vs : List Value} (h : RV ρ I w l vs) (n : Nat) {a : AV} {x : Value} (ha : rel ρ I w a x) : RV ρ I w (l.set n a) (vs.set n x) := by
 obtain ⟨h1, h2⟩ := zd6.1 h;refine zd6.2 ⟨by simp [h1], fun i b y hb hy => ?_⟩
 rw [List.getElem?_set] at hb hy
 by_cases e : n = i
 ·simp only [e, if_true] at hb hy
  split at hb <;> split at hy <;> simp_all
 ·simp only [e, if_false] at hb hy;exact h2 i b y hb hy
theorem zts {a : AV} {x : Value} (h : rel ρ I w a x) (n : Nat) : RV ρ I w (List.replicate n a) (List.replicate n x) := by
 refine zd6.2 ⟨by simp, fun i b y hb hy => ?_⟩
 rw [List.getElem?_replicate] at hb hy
 split at hb <;> simp_all
theorem z1k (l : List UInt8) : (v8 l).length = l.length := by simp [v8]
theorem zbx (l : List UInt32) : (v32 l).length = l.length := by simp [v32]
theorem zca (l : List UInt64) : (v64 l).length = l.length := by simp [v64]
theorem zxr (l : List Int) : (zae l).length = l.length := by simp [zae]
mutual
theorem z3o : ∀ (a : AV) (xs : List Value), R ρ I w a xs → xs.length = szA a
 | .any, _, ⟨_, h⟩ => by subst h; rfl
 | .raw _, _, h => by cases h; rfl
 | .int _ _, _, h => by cases h; rfl
 | .u8 _, _, h => by cases h; rfl
 | .u32 _, _, h => by cases h; rfl
 | .u64 _, _, h => by cases h; rfl
 | .bool _, _, h => by cases h; rfl
 | .str _, _, h => by cases h; rfl
 | .b8 _ _, _, ⟨h, h'⟩ => by subst h; rw [z1k]; exact h'
 | .w32 _ _, _, ⟨h, h'⟩ => by subst h; rw [zbx]; exact h'
 | .w64 _ _, _, ⟨h, h'⟩ => by subst h; rw [zca]; exact h'
 | .n64 _ _, _, ⟨h, h'⟩ => by subst h; rw [zxr]; exact h'
 | .ptr _ _, _, ⟨_, h, _⟩ => by subst h; rfl
 | .pix _ _ _ _, _, ⟨_, h, _⟩ => by subst h; rfl
 | .sl _ _ _ _, _, ⟨_, h, _⟩ => by subst h; rfl
 | .vec8 _ _, _, ⟨_, h, _⟩ => by subst h; rfl
 | .vec _ _ _, _, ⟨_, h, _⟩ => by subst h; rfl
 | .vecr _ _ _ _, _, ⟨_, h, _⟩ => by subst h; rfl
 | .slv _ _ _ _, _, ⟨_, h, _⟩ => by subst h; rfl
 | .vp _ _, _, ⟨_, h, _⟩ => by subst h; rfl
 | .vpx _ _ _ _, _, ⟨_, h, _⟩ => by subst h; rfl
 | .fn _ _ _, _, ⟨_, h, _⟩ => by subst h; rfl
 | .agg l, _, h => by rw [szA]; exact z3g l _ h
 | .tup _, _, ⟨_, h, _⟩ => by subst h; rfl
theorem z3g : ∀ (l : List AV) (xs : List Value), RL ρ I w l xs → xs.length = szL l
 | [], _, h => by cases h; rfl
 | a :: as, _, ⟨ys, zs, h0, h1, h2⟩ => by subst h0; rw [List.length_append, z3o a ys h1, z3g as zs h2, szL]
end
theorem z7j {l l' : List AV} {vs vs' : List Value} (h : RL ρ I w l vs) (h' : RL ρ I w l' vs') : RL ρ I w (l ++ l') (vs ++ vs') := by
 induction l generalizing vs with
 | nil => rw [zv8] at h; subst h; simpa using h'
 | cons a as ih =>
  obtain ⟨ys, zs, rfl, h1, h2⟩ := z12.1 h;exact z12.2 ⟨ys, zs ++ vs', by simp, h1, ih h2⟩
end lists
inductive Ent where
 | dead
 | res
 | blk (cells : List AV) (frz : List (Nat × Nat))
 | grow8 (l : List UInt8) (frz : List (Nat × Nat))
 | grow (k : Nat) (rows : List AV) (frz : List (Nat × Nat))
 | tail (k n : Nat)
 deriving Inhabited
def Ent.live : Ent → Bool
 | .dead => false
 | .res => false
 | _ => true
def Ent.frz : Ent → List (Nat × Nat)
 | .dead => []
 | .res => []
 | .blk _ f => f
 | .grow8 _ f => f
 | .grow _ _ f => f
 | .tail k n => [(0, n * k)]
def Ent.cells : Ent → List AV
 | .blk c _ => c
 | .grow8 l _ => [.b8 l.length l]
 | .grow _ rows _ => rows
 | _ => []
def Ent.grows : Ent → Bool
 | .grow8 _ _ => true
 | .grow _ _ _ => true
 | .tail _ _ => true
 | _ => false
def Ent.even : Ent → Prop
 | .grow k rows _ => ∀ a ∈ rows, szA a = k
 | _ => True
def z43 (f : List (Nat × Nat)) (o : Nat) : Prop := ∃ r ∈ f, r.1 ≤ o ∧ o < r.2
abbrev Heap := List Ent
def Own (ρ : Rho) (H : Heap) (b : Nat) : Prop := ∃ id e, H[id]? = some e ∧ e.live = true ∧ ρ id = some (some b)
def Mut (ρ : Rho) (H : Heap) (b o : Nat) : Prop := ∃ id e, H[id]? = some e ∧ e.live = true ∧ ρ id = some (some b) ∧ ¬ z43 e.frz o
theorem Mut.own {ρ : Rho} {H : Heap} {b o : Nat} (h : Mut ρ H b o) : Own ρ H b :=
 let ⟨id, e, h1, h2, h3, _⟩ := h; ⟨id, e, h1, h2, h3⟩
def clear (fr : Nat × Nat) (n : Nat) : Prop := fr.1 ≤ fr.2 ∧ ∀ o, o < n → ¬ (fr.1 ≤ o ∧ o < fr.2)
inductive FK where
 | go | add64 | sub64 | bad
 deriving DecidableEq, Inhabited
def gtyp (c : List AV) (vs : List Value) : Prop := match c with
 | [.any] => ∃ k, vs = [.int .i64 k]
 | _ => True
def zsd (c : List AV) : Bool := match c with
 | [.any] => false
 | _ => true
theorem zyi {c : List AV} {vs : List Value} (h : zsd c = true) : gtyp c vs := by
 rcases Classical.em (c = [AV.any]) with rfl | hn
 ·exact absurd h (by simp [zsd])
 ·unfold gtyp
  split
  ·exact absurd rfl hn
  ·trivial
def GL (I : Imm) (w : World) (c : List AV) (vs : List Value) : Prop := RL (fun _ => none) I w c vs ∧ gtyp c vs
theorem z4q {ρ : Rho} {I : Imm} {w : World} {ρ' : Rho} {I' : Imm} {w' : World} (m : Mono ρ I w ρ' I' w') {c : List AV} {vs : List Value} (h : GL I w c vs) : GL I' w' c vs := ⟨z15 m.none _ _ h.1, h.2⟩
structure Conc (g : Nat → Option (List AV)) (ρ : Rho) (I : Imm) (H : Heap) (w : World) : Prop where
 dom : ∀ id, ρ id ≠ none → id < H.length
 res : ∀ id, H[id]? = some .res → ρ id = none
 blt : ∀ id b, ρ id = some (some b) → b < w.heap.size
 inj : ∀ (i j b : Nat) (e e' : Ent), H[i]? = some e → e.live = true → H[j]? = some e' → e'.live = true → ρ i = some (some b) → ρ j = some (some b) → i = j
 blk : ∀ id c f, H[id]? = some (.blk c f) → ∃ b el fr cs, ρ id = some (some b) ∧ w.heap[b]? = some (.cells (List.toArray cs) el fr) ∧ RL ρ I w c cs ∧ clear fr cs.length
 grow : ∀ id e, H[id]? = some e → e.grows = true → e.even ∧ ((ρ id = some none ∧ szL e.cells = 0) ∨
  ∃ b el fr cs rest, ρ id = some (some b) ∧ w.heap[b]? = some (.cells (List.toArray (cs ++ rest)) el fr) ∧ RL ρ I w e.cells cs ∧ clear fr (cs ++ rest).length)
 imm : ∀ b o, I b o → b < w.heap.size ∧ ¬ Mut ρ H b o
 glob : ∀ n c, g n = some c → ∃ vs, GL I w c vs ∧ Lies I w n 0 vs
def grw (H : Heap) (id : Nat) : Prop := ∃ e, H[id]? = some e ∧ e.grows = true
structure Good (ρ : Rho) (I : Imm) (H : Heap) (w : World) (ρ' : Rho) (I' : Imm) (H' : Heap) (w' : World) : Prop where
 ext : ∀ id x, ρ id = some x → ρ' id = some x
 kp : ∀ id x, ρ id = some x → grw H' id → grw H id
 len : H.length ≤ H'.length
 imm : ∀ b o, I b o → I' b o
 imm' : ∀ b o, b < w.heap.size → I' b o → I b o ∨ Mut ρ H b o
 os : w'.os = w.os
 tape : w'.tape = w.tape
 out : w'.output = w.output
 size : w.heap.size ≤ w'.heap.size
 cell : ∀ b o, b < w.heap.size → ¬ Mut ρ H b o → w'.cell? ⟨b, o, none⟩ = w.cell? ⟨b, o, none⟩
 block : ∀ b, b < w.heap.size → (∀ o, ¬ Mut ρ H b o) → w'.heap[b]? = w.heap[b]?
 bs : ∀ b, b < w.heap.size → bsz w' b = bsz w b
 wrt : ∀ b o, b < w.heap.size → Mut ρ' H' b o → Mut ρ H b o
 own : ∀ b, b < w.heap.size → Own ρ' H' b → Own ρ H b
theorem Good.refl (ρ : Rho) (I : Imm) (H : Heap) (w : World) : Good ρ I H w ρ I H w where
 ext := fun _ _ h => h
 kp := fun _ _ _ h => h
 len := Nat.le_refl _
 imm := fun _ _ h => h
 imm' := fun _ _ _ h => .inl h
 os := rfl
 tape := rfl
 out := rfl
 size := Nat.le_refl _
 cell := fun _ _ _ _ => rfl
 block := fun _ _ _ => rfl
 bs := fun _ _ => rfl
 wrt := fun _ _ _ h => h
 own := fun _ _ h => h
theorem Good.trans {ρ : Rho} {I : Imm} {H : Heap} {w : World} {ρ1 : Rho} {I1 : Imm} {H1 : Heap} {w1 : World} {ρ2 : Rho} {I2 : Imm} {H2 : Heap} {w2 : World}
  (a : Good ρ I H w ρ1 I1 H1 w1) (b : Good ρ1 I1 H1 w1 ρ2 I2 H2 w2) : Good ρ I H w ρ2 I2 H2 w2 where
 ext := fun id x h => b.ext id x (a.ext id x h)
 kp := fun id x h g => a.kp id x h (b.kp id x (a.ext id x h) g)
 len := Nat.le_trans a.len b.len
 imm := fun x o h => b.imm _ _ (a.imm _ _ h)
 imm' := fun x o h k => by
  rcases b.imm' x o (Nat.lt_of_lt_of_le h a.size) k with g | g
  ·exact a.imm' x o h g
  ·exact .inr (a.wrt x o h g)
 os := b.os.trans a.os
 tape := b.tape.trans a.tape
 out := b.out.trans a.out
 size := Nat.le_trans a.size b.size
 cell := fun x o h k => (b.cell x o (Nat.lt_of_lt_of_le h a.size) (fun g => k (a.wrt x o h g))).trans (a.cell x o h k)
 block := fun x h k => (b.block x (Nat.lt_of_lt_of_le h a.size) (fun o g => k o (a.wrt x o h g))).trans (a.block x h k)
 bs := fun x h => (b.bs x (Nat.lt_of_lt_of_le h a.size)).trans (a.bs x h)
 wrt := fun x o h g => a.wrt x o h (b.wrt x o (Nat.lt_of_lt_of_le h a.size) g)
 own := fun x h g => a.own x h (b.own x (Nat.lt_of_lt_of_le h a.size) g)
theorem Conc.mono {g : Nat → Option (List AV)} {ρ : Rho} {I : Imm} {H : Heap} {w : World} {ρ' : Rho} {I' : Imm} {H' : Heap} {w' : World}
  (c : Conc g ρ I H w) (k : Good ρ I H w ρ' I' H' w') (he : ∀ id x, ρ id = some x → ρ' id = some x) : Mono ρ I w ρ' I' w' where
 ext := he
 imm := fun b o h => by
  obtain ⟨h1, h2⟩ := c.imm b o h;exact ⟨k.imm b o h, k.cell b o h1 h2⟩
 sz := fun b h => ⟨Nat.lt_of_lt_of_le h k.size, k.bs b h⟩
mutual
def z48 (S : Nat → Bool) : AV → AV
 | .ptr id off => bif S id then .any else .ptr id off
 | .pix id off n i => bif S id then .any else .pix id off n i
 | .sl id off k len => bif S id then .any else .sl id off k len
 | .slv id k n f => bif S id then .any else .slv id k n f
 | .vec f k rows => .vec f k (z4s S rows)
 | .vp cells i => .vp (z4s S cells) i
 | .vpx cells off n i => .vpx (z4s S cells) off n i
 | .fn f a b => .fn f (z4s S a) (z4s S b)
 | .agg l => .agg (z4s S l)
 | .tup l => .tup (z4s S l)
 | a => a
def z4s (S : Nat → Bool) : List AV → List AV
 | [] => []
 | a :: as => z48 S a :: z4s S as
end
mutual
def z4x (σ : Nat → Nat) : AV → AV
 | .ptr id off => .ptr (σ id) off
 | .pix id off n i => .pix (σ id) off n i
 | .sl id off k len => .sl (σ id) off k len
 | .slv id k n f => .slv (σ id) k n f
 | .vec f k rows => .vec f k (z4m σ rows)
 | .vp cells i => .vp (z4m σ cells) i
 | .vpx cells off n i => .vpx (z4m σ cells) off n i
 | .fn f a b => .fn f (z4m σ a) (z4m σ b)
 | .agg l => .agg (z4m σ l)
 | .tup l => .tup (z4m σ l)
 | a => a
def z4m (σ : Nat → Nat) : List AV → List AV
 | [] => []
 | a :: as => z4x σ a :: z4m σ as
end
mutual
def z35 (n : Nat) : AV → Bool
 | .ptr id _ => n - id != 0
 | .pix id _ _ _ => n - id != 0
 | .sl id _ _ _ => n - id != 0
 | .slv id _ _ _ => n - id != 0
 | .vec _ _ rows => z2s n rows
 | .vp cells _ => z2s n cells
 | .vpx cells _ _ _ => z2s n cells
 | .fn _ a b => z2s n a && z2s n b
 | .agg l => z2s n l
 | .tup l => z2s n l
 | _ => true
def z2s (n : Nat) : List AV → Bool
 | [] => true
 | a :: as => z35 n a && z2s n as
end
section maps
variable {ρ : Rho} {I : Imm} {w : World}
mutual
theorem zv4 (S : Nat → Bool) : ∀ a, szA (z48 S a) = szA a
 | .ptr id off => by cases h : S id <;> simp [z48, h, szA]
 | .pix id off n i => by cases h : S id <;> simp [z48, h, szA]
 | .sl id off k len => by cases h : S id <;> simp [z48, h, szA]
 | .slv id k n f => by cases h : S id <;> simp [z48, h, szA]
 | .agg l => by simp only [z48, szA]; exact zw8 S l
 | .any | .raw _ | .int _ _ | .u8 _ | .u32 _ | .u64 _ | .bool _ | .str _ | .b8 _ _ | .w32 _ _ | .w64 _ _ | .n64 _ _ | .vec8 _ _ | .vec _ _ _ | .vecr _ _ _ _ | .vp _ _ | .vpx _ _ _ _ | .fn _ _ _ | .tup _ => by simp only [z48, szA]
theorem zw8 (S : Nat → Bool) : ∀ l, szL (z4s S l) = szL l
 | [] => rfl
 | a :: as => by simp only [z4s, szL, zv4 S a, zw8 S as]
end
mutual
theorem zzr (σ : Nat → Nat) : ∀ a, szA (z4x σ a) = szA a
 | .agg l => by simp only [z4x, szA]; exact zop σ l
 | .ptr _ _ | .pix _ _ _ _ | .sl _ _ _ _ | .slv _ _ _ _ | .any | .raw _ | .int _ _ | .u8 _ | .u32 _ | .u64 _ | .bool _ | .str _ | .b8 _ _ | .w32 _ _ | .w64 _ _ | .n64 _ _ | .vec8 _ _ | .vec _ _ _ | .vecr _ _ _ _ | .vp _ _ | .vpx _ _ _ _ | .fn _ _ _ | .tup _ => by simp only [z4x, szA]
theorem zop (σ : Nat → Nat) : ∀ l, szL (z4m σ l) = szL l
 | [] => rfl
 | a :: as => by simp only [z4m, szL, zzr σ a, zop σ as]
end
theorem zra (S : Nat → Bool) : ∀ l, (z4s S l).length = l.length
 | [] => rfl
 | a :: as => by simp [z4s, zra S as]
theorem zt6 (σ : Nat → Nat) : ∀ l, (z4m σ l).length = l.length
 | [] => rfl
 | a :: as => by simp [z4m, zt6 σ as]
theorem znl (S : Nat → Bool) {k : Nat} : ∀ {l : List AV}, (∀ a ∈ l, szA a = k) → ∀ a ∈ z4s S l, szA a = k
 | [], _ => fun a h => by simp [z4s] at h
 | b :: bs, h => fun a ha => by
  simp only [z4s, List.mem_cons] at ha;rcases ha with rfl | ha
  ·rw [zv4]; exact h b (by simp)
  ·exact znl S (fun a h' => h a (by simp [h'])) a ha
theorem ziw (σ : Nat → Nat) {k : Nat} : ∀ {l : List AV}, (∀ a ∈ z4m σ l, szA a = k) ↔ (∀ a ∈ l, szA a = k)
 | [] => by simp [z4m]
 | b :: bs => by
  simp only [z4m, List.mem_cons, forall_eq_or_imp, zzr, ziw σ (l := bs)]
mutual
theorem z10z {S : Nat → Bool} : ∀ a, z1b a = true → z48 S a = a
 | .ptr _ _, h | .pix _ _ _ _, h | .sl _ _ _ _, h | .slv _ _ _ _, h => by simp [z1b] at h
 | .vec _ _ rows, h => by simp only [z48, z4i rows (by simpa [z1b] using h)]
 | .vp cells _, h => by simp only [z48, z4i cells (by simpa [z1b] using h)]
 | .vpx cells _ _ _, h => by simp only [z48, z4i cells (by simpa [z1b] using h)]
 | .fn _ a b, h => by
  simp only [z1b, Bool.and_eq_true] at h;simp only [z48, z4i a h.1, z4i b h.2]
 | .agg l, h => by simp only [z48, z4i l (by simpa [z1b] using h)]
 | .tup l, h => by simp only [z48, z4i l (by simpa [z1b] using h)]
 | .any, _ | .raw _, _ | .int _ _, _ | .u8 _, _ | .u32 _, _ | .u64 _, _ | .bool _, _ | .str _, _ | .b8 _ _, _ | .w32 _ _, _ | .w64 _ _, _ | .n64 _ _, _ | .vec8 _ _, _ | .vecr _ _ _ _, _ => by simp only [z48]
theorem z4i {S : Nat → Bool} : ∀ l, zw l = true → z4s S l = l
 | [], _ => rfl
 | a :: as, h => by
  simp only [zw, Bool.and_eq_true] at h;simp only [z4s, z10z a h.1, z4i as h.2]
end
structure MonoBut (S : Nat → Bool) (ρ : Rho) (I : Imm) (w : World) (ρ' : Rho) (I' : Imm) (w' : World) : Prop where
 ext : ∀ id x, S id = false → ρ id = some x → ρ' id = some x
 imm : ∀ b o, I b o → I' b o ∧ w'.cell? ⟨b, o, none⟩ = w.cell? ⟨b, o, none⟩
 sz : ∀ b, b < w.heap.size → b < w'.heap.size ∧ bsz w' b = bsz w b
theorem vecR.z1lt {S : Nat → Bool} {ρ' : Rho} {I' : Imm} {w' : World} (m : MonoBut S ρ I w ρ' I' w') {full : Bool} {len : Nat} {vs : List Value} {v : Value} (h : vecR I w full len vs v) : vecR I' w' full len vs v := by
 obtain ⟨a, cap, h1, h2, h3, h4⟩ := h;exact ⟨a, cap, h1, h2, h3, h4.imp id fun ⟨b, off, k1, k2, k3⟩ => ⟨b, off, k1, (m.sz b k2).1, k3.mono m.imm⟩⟩
theorem vpR.z1lt {S : Nat → Bool} {ρ' : Rho} {I' : Imm} {w' : World} (m : MonoBut S ρ I w ρ' I' w') {i : Nat} {vs : List Value} {v : Value} (h : vpR I w i vs v) : vpR I' w' i vs v := by
 obtain ⟨b, off, h1, h2⟩ := h;exact ⟨b, off, h1, h2.mono m.imm⟩
theorem z10v {S : Nat → Bool} {a : AV} {v : Value} {Ra Ra' : List Value → Prop} (h : ∀ xs, Ra xs → Ra' xs) (hv : valOf a v Ra) : valOf (z48 S a) v Ra' := by
 cases a <;> simp only [z48] <;> first | exact valOf.imp h hv | skip
 all_goals
  cases hs : S _
  ·simp only [valOf, cond_false] at hv ⊢; exact h _ hv
  ·simp only [cond_true]; trivial
mutual
theorem z15r {S : Nat → Bool} {ρ' : Rho} {I' : Imm} {w' : World} (m : MonoBut S ρ I w ρ' I' w') : ∀ (a : AV) (xs : List Value), R ρ I w a xs → R ρ' I' w' (z48 S a) xs
 | .any, _, h => h
 | .raw _, _, h => h
 | .int _ _, _, h => h
 | .u8 _, _, h => h
 | .u32 _, _, h => h
 | .u64 _, _, h => h
 | .bool _, _, h => h
 | .str _, _, h => h
 | .b8 _ _, _, h => h
 | .w32 _ _, _, h => h
 | .w64 _ _, _, h => h
 | .n64 _ _, _, h => h
 | .ptr id _, _, ⟨v, h0, b, h1, h2⟩ => by
  simp only [z48];cases hs : S id
  ·exact ⟨v, h0, b, m.ext _ _ hs h1, h2⟩
  ·exact ⟨v, h0⟩
 | .pix id _ _ _, _, ⟨v, h0, b, h1, h2, h3⟩ => by
  simp only [z48];cases hs : S id
  ·exact ⟨v, h0, b, m.ext _ _ hs h1, h2, h3⟩
  ·exact ⟨v, h0⟩
 | .sl id _ _ _, _, ⟨v, h0, h1⟩ => by
  simp only [z48];cases hs : S id
  ·refine ⟨v, h0, ?_⟩;rcases h1 with ⟨b, cap, h1, h2, h3, h4, h5⟩ | h
   ·exact .inl ⟨b, cap, m.ext _ _ hs h1, h2, h3, (m.sz b h4).1, (m.sz b h4).2 ▸ h5⟩
   ·exact .inr h
  ·exact ⟨v, h0⟩
 | .slv id _ _ f, _, ⟨v, h0, h1, ⟨vs, hl, h2, h3⟩, h4⟩ => by
  simp only [z48];cases hs : S id
  ·refine ⟨v, h0, h1, ⟨vs, hl, fun i hi => ?_, h3.z1lt m⟩, ?_⟩
   ·have := zal m (f i) _ (h2 i hi);rw [z4i (f i) (z3u (h1 i hi))] at this;exact this
   rcases h4 with ⟨b, cap, h1, h2, h3, h4, h5⟩ | h
   ·exact .inl ⟨b, cap, m.ext _ _ hs h1, h2, h3, (m.sz b h4).1, (m.sz b h4).2 ▸ h5⟩
   ·exact .inr h
  ·exact ⟨v, h0⟩
 | .vec8 _ _, _, ⟨v, h0, h1⟩ => ⟨v, h0, h1.z1lt m⟩
 | .vec _ _ rows, _, ⟨v, h0, h1, vs, h2, h3⟩ => ⟨v, h0, znl S h1, vs, zal m rows vs h2, by rw [zra]; exact h3.z1lt m⟩
 | .vecr _ _ _ f, _, ⟨v, h0, h1, vs, hl, h2, h3⟩ => ⟨v, h0, h1, vs, hl, fun i hi => by
   have := zal m (f i) _ (h2 i hi);rw [z4i (f i) (z3u (h1 i hi))] at this;exact this, h3.z1lt m⟩
 | .vp cells _, _, ⟨v, h0, vs, h2, h3⟩ => ⟨v, h0, vs, zal m cells vs h2, h3.z1lt m⟩
 | .vpx cells _ _ _, _, ⟨v, h0, h1, vs, h2, h3⟩ => ⟨v, h0, h1, vs, zal m cells vs h2, h3.z1lt m⟩
 | .fn _ first caps, _, ⟨v, h0, x, y, h1, h2, h3⟩ => ⟨v, h0, x, y, h1, zfp m first _ h2, zfp m caps _ h3⟩
 | .agg l, _, h => zal m l _ h
 | .tup l, _, ⟨v, h0, cs, h1, h2⟩ => ⟨v, h0, cs, h1, zfp m l _ h2⟩
theorem zal {S : Nat → Bool} {ρ' : Rho} {I' : Imm} {w' : World} (m : MonoBut S ρ I w ρ' I' w') : ∀ (l : List AV) (xs : List Value), RL ρ I w l xs → RL ρ' I' w' (z4s S l) xs
 | [], _, h => h
 | a :: as, _, ⟨ys, zs, h0, h1, h2⟩ => ⟨ys, zs, h0, z15r m a ys h1, zal m as zs h2⟩
theorem zfp {S : Nat → Bool} {ρ' : Rho} {I' : Imm} {w' : World} (m : MonoBut S ρ I w ρ' I' w') : ∀ (l : List AV) (vs : List Value), RV ρ I w l vs → RV ρ' I' w' (z4s S l) vs
 | [], _, h => h
 | a :: as, _, ⟨x, xs, h0, h1, h2⟩ => ⟨x, xs, h0, z10v (z15r m a) h1, zfp m as xs h2⟩
end
mutual
theorem z3p : ∀ (a : AV), z1b a = true → ∀ n, z35 n a = true
 | .vec _ _ rows, h, n => by simp only [z35]; exact z2t rows (by simpa [z1b] using h) n
 | .vp cells _, h, n => by simp only [z35]; exact z2t cells (by simpa [z1b] using h) n
 | .vpx cells _ _ _, h, n => by simp only [z35]; exact z2t cells (by simpa [z1b] using h) n
 | .fn _ a b, h, n => by
  simp only [z1b, Bool.and_eq_true] at h;simp only [z35, z2t a h.1 n, z2t b h.2 n, Bool.and_self]
 | .agg l, h, n => by simp only [z35]; exact z2t l (by simpa [z1b] using h) n
 | .tup l, h, n => by simp only [z35]; exact z2t l (by simpa [z1b] using h) n
 | .ptr _ _, h, _ | .pix _ _ _ _, h, _ | .sl _ _ _ _, h, _ | .slv _ _ _ _, h, _ => by simp [z1b] at h
 | .any, _, _ | .raw _, _, _ | .int _ _, _, _ | .u8 _, _, _ | .u32 _, _, _ | .u64 _, _, _ | .bool _, _, _ | .str _, _, _ | .b8 _ _, _, _ | .w32 _ _, _, _ | .w64 _ _, _, _ | .n64 _ _, _, _ | .vec8 _ _, _, _ | .vecr _ _ _ _, _, _ => rfl
theorem z2t : ∀ (l : List AV), zw l = true → ∀ n, z2s n l = true
 | [], _, _ => rfl
 | a :: as, h, n => by
  simp only [zw, Bool.and_eq_true] at h;simp only [z2s, z3p a h.1 n, z2t as h.2 n, Bool.and_self]
end
mutual
theorem z2y {n : Nat} {ρ' : Rho} (hr : ∀ id, id < n → ρ' id = ρ id) : ∀ (a : AV) (xs : List Value), z35 n a = true → R ρ I w a xs → R ρ' I w a xs
 | .any, _, _, h => h
 | .raw _, _, _, h => h
 | .int _ _, _, _, h => h
 | .u8 _, _, _, h => h
 | .u32 _, _, _, h => h
 | .u64 _, _, _, h => h
 | .bool _, _, _, h => h
 | .str _, _, _, h => h
 | .b8 _ _, _, _, h => h
 | .w32 _ _, _, _, h => h
 | .w64 _ _, _, _, h => h
 | .n64 _ _, _, _, h => h
 | .vec8 _ _, _, _, h => h
 | .ptr id _, _, hn, ⟨v, h0, b, h1, h2⟩ => ⟨v, h0, b, by rw [hr id (by simp [z35] at hn; omega)]; exact h1, h2⟩
 | .pix id _ _ _, _, hn, ⟨v, h0, b, h1, h2⟩ => ⟨v, h0, b, by rw [hr id (by simp [z35] at hn; omega)]; exact h1, h2⟩
 | .sl id _ _ _, _, hn, ⟨v, h0, h1⟩ => by
  refine ⟨v, h0, ?_⟩;unfold slR;rw [hr id (by simp [z35] at hn; omega)]
  exact h1
 | .slv id _ _ f, _, hn, ⟨v, h0, h1, ⟨vs, hl, h2, h3⟩, h4⟩ => by
  refine ⟨v, h0, h1, ⟨vs, hl, fun i hi => z3k hr (f i) _ (z2t (f i) (z3u (h1 i hi)) n) (h2 i hi), h3⟩, ?_⟩
  unfold slR;rw [hr id (by simp [z35] at hn; omega)]
  exact h4
 | .vec _ _ rows, _, hn, ⟨v, h0, h1, vs, h2, h3⟩ => ⟨v, h0, h1, vs, z3k hr rows vs hn h2, h3⟩
 | .vecr _ _ _ f, _, hn, ⟨v, h0, h1, vs, hl, h2, h3⟩ => ⟨v, h0, h1, vs, hl, fun i hi => z3k hr (f i) _ (z2t (f i) (z3u (h1 i hi)) n) (h2 i hi), h3⟩
 | .vp cells _, _, hn, ⟨v, h0, vs, h2, h3⟩ => ⟨v, h0, vs, z3k hr cells vs hn h2, h3⟩
 | .vpx cells _ _ _, _, hn, ⟨v, h0, h1, vs, h2, h3⟩ => ⟨v, h0, h1, vs, z3k hr cells vs hn h2, h3⟩
 | .fn _ first caps, _, hn, ⟨v, h0, x, y, h1, h2, h3⟩ => by
  simp only [z35, Bool.and_eq_true] at hn;exact ⟨v, h0, x, y, h1, zcs hr first _ hn.1 h2, zcs hr caps _ hn.2 h3⟩
 | .agg l, _, hn, h => z3k hr l _ hn h
 | .tup l, _, hn, ⟨v, h0, cs, h1, h2⟩ => ⟨v, h0, cs, h1, zcs hr l _ hn h2⟩
theorem z3k {n : Nat} {ρ' : Rho} (hr : ∀ id, id < n → ρ' id = ρ id) : ∀ (l : List AV) (xs : List Value), z2s n l = true → RL ρ I w l xs → RL ρ' I w l xs
 | [], _, _, h => h
 | a :: as, _, hn, ⟨ys, zs, h0, h1, h2⟩ => by
  simp only [z2s, Bool.and_eq_true] at hn;exact ⟨ys, zs, h0, z2y hr a ys hn.1 h1, z3k hr as zs hn.2 h2⟩
theorem zcs {n : Nat} {ρ' : Rho} (hr : ∀ id, id < n → ρ' id = ρ id) : ∀ (l : List AV) (vs : List Value), z2s n l = true → RV ρ I w l vs → RV ρ' I w l vs
 | [], _, _, h => h
 | a :: as, _, hn, ⟨x, xs, h0, h1, h2⟩ => by
  simp only [z2s, Bool.and_eq_true] at hn;exact ⟨x, xs, h0, h1.imp (fun ys h => z2y hr a ys hn.1 h), zcs hr as xs hn.2 h2⟩
end
theorem zm0 {n : Nat} {ρ' : Rho} (hr : ∀ id, id < n → ρ' id = ρ id) {a : AV} {v : Value} (hn : z35 n a = true) (h : rel ρ I w a v) : rel ρ' I w a v := valOf.imp (fun xs h => z2y hr a xs hn h) h
theorem zjj {σ : Nat → Nat} {a : AV} {v : Value} {Ra Ra' : List Value → Prop} (h : ∀ xs, Ra xs ↔ Ra' xs) : valOf a v Ra ↔ valOf (z4x σ a) v Ra' := by
 cases a <;> simp only [z4x, valOf, h]
mutual
theorem zsu {σ : Nat → Nat} : ∀ (a : AV) (xs : List Value), R (fun i => ρ (σ i)) I w a xs ↔ R ρ I w (z4x σ a) xs
 | .vec _ _ rows, _ => by simp only [z4x, R, zft rows, ziw, zt6]
 | .vp cells _, _ => by simp only [z4x, R, zft cells]
 | .vpx cells _ _ _, _ => by simp only [z4x, R, zft cells]
 | .fn _ first caps, _ => by simp only [z4x, R, zid first, zid caps]
 | .agg l, _ => by simp only [z4x, R, zft l]
 | .tup l, _ => by simp only [z4x, R, zid l]
 | .vecr _ _ n f, _ => by
  simp only [z4x, R];have h0 : ∀ (ρ1 ρ2 : Rho) (i : Nat) (xs : List Value), zw (f i) = true → RL ρ1 I w (f i) xs → RL ρ2 I w (f i) xs := fun ρ1 ρ2 i xs hp h => z3k (n := 0) (fun _ h => by omega) (f i) xs (z2t (f i) hp 0) h
  constructor
  ·rintro ⟨v, e, h1, vs, hl, h2, h3⟩;exact ⟨v, e, h1, vs, hl, fun i hi => h0 _ _ i _ (z3u (h1 i hi)) (h2 i hi), h3⟩
  ·rintro ⟨v, e, h1, vs, hl, h2, h3⟩;exact ⟨v, e, h1, vs, hl, fun i hi => h0 _ _ i _ (z3u (h1 i hi)) (h2 i hi), h3⟩
 | .slv _ _ n f, _ => by
  simp only [z4x, R];have h0 : ∀ (ρ1 ρ2 : Rho) (i : Nat) (xs : List Value), zw (f i) = true → RL ρ1 I w (f i) xs → RL ρ2 I w (f i) xs := fun ρ1 ρ2 i xs hp h => z3k (n := 0) (fun _ h => by omega) (f i) xs (z2t (f i) hp 0) h
  constructor
  ·rintro ⟨v, e, h1, ⟨vs, hl, h2, h3⟩, h4⟩;exact ⟨v, e, h1, ⟨vs, hl, fun i hi => h0 _ _ i _ (z3u (h1 i hi)) (h2 i hi), h3⟩, h4⟩
  ·rintro ⟨v, e, h1, ⟨vs, hl, h2, h3⟩, h4⟩;exact ⟨v, e, h1, ⟨vs, hl, fun i hi => h0 _ _ i _ (z3u (h1 i hi)) (h2 i hi), h3⟩, h4⟩
 | .ptr _ _, _ | .pix _ _ _ _, _ | .sl _ _ _ _, _ | .any, _ | .raw _, _ | .int _ _, _ | .u8 _, _ | .u32 _, _ | .u64 _, _ | .bool _, _ | .str _, _ | .b8 _ _, _ | .w32 _ _, _ | .w64 _ _, _ | .n64 _ _, _ | .vec8 _ _, _ => by simp only [z4x, R, slR]
theorem zft {σ : Nat → Nat} : ∀ (l : List AV) (xs : List Value), RL (fun i => ρ (σ i)) I w l xs ↔ RL ρ I w (z4m σ l) xs
 | [], _ => by simp only [z4m, RL]
 | a :: as, _ => by simp only [z4m, RL, zsu a, zft as]
theorem zid {σ : Nat → Nat} : ∀ (l : List AV) (vs : List Value), RV (fun i => ρ (σ i)) I w l vs ↔ RV ρ I w (z4m σ l) vs
 | [], _ => by simp only [z4m, RV]
 | a :: as, _ => by
  simp only [z4m, RV];constructor
  ·rintro ⟨x, xs, h0, h1, h2⟩;exact ⟨x, xs, h0, (zjj (zsu a)).1 h1, (zid as _).1 h2⟩
  ·rintro ⟨x, xs, h0, h1, h2⟩;exact ⟨x, xs, h0, (zjj (zsu a)).2 h1, (zid as _).2 h2⟩
end
theorem z7i {ρ' : Rho} {a : AV} {v : Value} (hp : z1b a = true) (h : rel ρ I w a v) : rel ρ' I w a v :=
 zm0 (n := 0) (fun _ h => by omega) (z3p a hp 0) h
theorem zza {ρ' : Rho} {l : List AV} {vs : List Value} (hp : zw l = true) (h : RV ρ I w l vs) : RV ρ' I w l vs :=
 zcs (n := 0) (fun _ h => by omega) l vs (z2t l hp 0) h
end maps
structure RelT (ρ : Rho) (I : Imm) (w : World) (t : List AV) (a : Act) : Prop where
 tr : RV ρ I w t a.tmps.toList
 defers : a.defers = []
theorem RelT.mono {ρ : Rho} {I : Imm} {w : World} {ρ' : Rho} {I' : Imm} {w' : World} (m : Mono ρ I w ρ' I' w') {t : List AV} {a : Act} (h : RelT ρ I w t a) : RelT ρ' I' w' t a :=
 ⟨z7v m _ _ h.tr, h.defers⟩
structure St where
 t : List AV
 H : Heap
end Go.V