/- The abstract layer (second state), part A: abstract values and abstract memory, what they say of a world, and that what is said is kept by steps. -/
import Derived.WalkKit
import Derived.Laws.Externs
import Derived.Laws.StructEq
import Derived.Deep.MidRow

set_option linter.unusedSimpArgs false
set_option linter.unusedVariables false
namespace Go.V
open Go

/-- An abstract value. 'b8', 'w32', 'w64': rows of numbers, so many cells. 'ptr', 'sl': into an entry of the abstract memory that is owned (its number). 'vp', 'vec', 'vec8', 'vecr': to cells that nobody writes any more, with what they hold ('vecr': so many rows, each told by its number; 'slv': such rows, and room behind them that is owned). -/
inductive AV where
  | any
  | raw (v : Value)
  | int (k : IntKind) (n : Int)
  | u8 (x : UInt8)
  | u32 (x : UInt32)
  | u64 (x : UInt64)
  | bool (b : Bool)
  | str (s : List UInt8)
  | b8 (n : Nat) (l : List UInt8)
  | w32 (n : Nat) (l : List UInt32)
  | w64 (n : Nat) (l : List UInt64)
  | n64 (n : Nat) (l : List Int)
  | ptr (id off : Nat)
  | pix (id off n : Nat) (i : Int)
  | sl (id off k len : Nat)
  | vec8 (full : Bool) (l : List UInt8)
  | vec (full : Bool) (k : Nat) (rows : List AV)
  | vecr (full : Bool) (k n : Nat) (f : Nat → List AV)
  | slv (id k n : Nat) (f : Nat → List AV)
  | vp (cells : List AV) (i : Nat)
  | vpx (cells : List AV) (off n : Nat) (i : Int)
  | fn (f : Fn) (first caps : List AV)
  | agg (l : List AV)
  | tup (l : List AV)
  deriving Inhabited

abbrev Rho := Nat → Option (Option Nat)
abbrev Imm := Nat → Nat → Prop

def bsz (w : World) (b : Nat) : Nat :=
  match w.heap[b]? with
  | some (.cells c _ _) => c.size
  | _ => 0

mutual
/-- No reference to what is owned. -/
def pureA : AV → Bool
  | .ptr _ _ => false
  | .pix _ _ _ _ => false
  | .sl _ _ _ _ => false
  | .slv _ _ _ _ => false
  | .vec _ _ rows => pureL rows
  | .vp cells _ => pureL cells
  | .vpx cells _ _ _ => pureL cells
  | .fn _ a b => pureL a && pureL b
  | .agg l => pureL l
  | .tup l => pureL l
  | _ => true
def pureL : List AV → Bool
  | [] => true
  | a :: as => pureA a && pureL as
end

mutual
/-- May its cells lie in memory? -/
def oneA : AV → Bool
  | .any => false
  | .raw v => v.oneCell'
  | .tup _ => false
  | .agg l => oneL l
  | _ => true
def oneL : List AV → Bool
  | [] => true
  | a :: as => oneA a && oneL as
end
/-- Cells of a row that is kept: no references to what is owned; such as may lie in memory. -/
def okL (l : List AV) : Bool := pureL l && oneL l
theorem okL_pure {l : List AV} (h : okL l = true) : pureL l = true := by
  simp only [okL, Bool.and_eq_true] at h; exact h.1
theorem okL_one {l : List AV} (h : okL l = true) : oneL l = true := by
  simp only [okL, Bool.and_eq_true] at h; exact h.2

mutual
/-- How many cells it takes. -/
def szA : AV → Nat
  | .b8 n _ => n
  | .w32 n _ => n
  | .w64 n _ => n
  | .n64 n _ => n
  | .agg l => szL l
  | _ => 1
def szL : List AV → Nat
  | [] => 0
  | a :: as => szA a + szL as
end

def isAg : AV → Bool
  | .b8 _ _ => true
  | .w32 _ _ => true
  | .w64 _ _ => true
  | .n64 _ _ => true
  | .agg _ => true
  | _ => false

def v8 (l : List UInt8) : List Value := l.map fun x => .int .u8 x.toNat
def v32 (l : List UInt32) : List Value := l.map fun x => .int .u32 x.toNat
def v64 (l : List UInt64) : List Value := l.map fun x => .int .u64 x.toNat
def vi64 (l : List Int) : List Value := l.map fun x => .int .i64 x

/-- What lies in the cells from (b, off) on, and stays. -/
def Lies (I : Imm) (w : World) (b off : Nat) (vs : List Value) : Prop :=
  ∀ i x, vs[i]? = some x → w.cell? ⟨b, off + i, none⟩ = some x ∧ I b (off + i)

/-- A slice that nobody writes: so many elements, in cells that hold these. -/
def vecR (I : Imm) (w : World) (full : Bool) (len : Nat) (vs : List Value) (v : Value) : Prop :=
  ∃ a cap, v = .slice a len cap ∧ len ≤ cap ∧ (full = true → cap = len) ∧ (len = 0 ∨ ∃ b off, a = some ⟨b, off, none⟩ ∧ b < w.heap.size ∧ Lies I w b off vs)

def slR (ρ : Rho) (w : World) (id off k len : Nat) (v : Value) : Prop :=
  (∃ b cap, ρ id = some (some b) ∧ v = .slice (some ⟨b, off, none⟩) len cap ∧ len ≤ cap ∧ b < w.heap.size ∧ off + cap * k ≤ bsz w b) ∨ (len = 0 ∧ ∃ a, v = .slice a 0 0)

def vpR (I : Imm) (w : World) (i : Nat) (vs : List Value) (v : Value) : Prop :=
  ∃ b off, v = .pointer (some ⟨b, off + i, none⟩) ∧ Lies I w b off vs

def valOf (a : AV) (v : Value) (Ra : List Value → Prop) : Prop :=
  match a with
  | .any => True
  | .agg _ => ∃ cs : Array Value, v = .agg cs ∧ Ra cs.toList
  | .b8 _ _ => ∃ cs : Array Value, v = .agg cs ∧ Ra cs.toList
  | .w32 _ _ => ∃ cs : Array Value, v = .agg cs ∧ Ra cs.toList
  | .w64 _ _ => ∃ cs : Array Value, v = .agg cs ∧ Ra cs.toList
  | .n64 _ _ => ∃ cs : Array Value, v = .agg cs ∧ Ra cs.toList
  | _ => Ra [v]

mutual
/-- The cells that an abstract value stands for. -/
def R (ρ : Rho) (I : Imm) (w : World) : AV → List Value → Prop
  | .any, xs => ∃ x, xs = [x]
  | .raw v, xs => xs = [v]
  | .int k n, xs => xs = [.int k n]
  | .u8 x, xs => xs = [.int .u8 x.toNat]
  | .u32 x, xs => xs = [.int .u32 x.toNat]
  | .u64 x, xs => xs = [.int .u64 x.toNat]
  | .bool b, xs => xs = [.bool b]
  | .str s, xs => xs = [.string ⟨s.toArray⟩]
  | .b8 n l, xs => xs = v8 l ∧ l.length = n
  | .w32 n l, xs => xs = v32 l ∧ l.length = n
  | .w64 n l, xs => xs = v64 l ∧ l.length = n
  | .n64 n l, xs => xs = vi64 l ∧ l.length = n
  | .ptr id off, xs => ∃ v, xs = [v] ∧ ∃ b, ρ id = some (some b) ∧ v = .pointer (some ⟨b, off, none⟩)
  | .pix id off n i, xs => ∃ v, xs = [v] ∧ ∃ b, ρ id = some (some b) ∧ (0 ≤ i ∧ i < n) ∧ v = .pointer (some ⟨b, off + i.toNat, none⟩)
  | .sl id off k len, xs => ∃ v, xs = [v] ∧ slR ρ w id off k len v
  | .vec8 full l, xs => ∃ v, xs = [v] ∧ vecR I w full l.length (v8 l) v
  | .vec full k rows, xs => ∃ v, xs = [v] ∧ (∀ a ∈ rows, szA a = k) ∧ ∃ vs, RL ρ I w rows vs ∧ vecR I w full rows.length vs v
  | .vecr full k n f, xs => ∃ v, xs = [v] ∧ (∀ i, i < n → okL (f i) = true) ∧ ∃ vs, vs.length = n * k ∧ (∀ i, i < n → RL ρ I w (f i) ((vs.drop (i * k)).take k)) ∧ vecR I w full n vs v
  | .slv id k n f, xs => ∃ v, xs = [v] ∧ (∀ i, i < n → okL (f i) = true) ∧ (∃ vs, vs.length = n * k ∧ (∀ i, i < n → RL ρ I w (f i) ((vs.drop (i * k)).take k)) ∧ vecR I w false n vs v) ∧ slR ρ w id 0 k n v
  | .vp cells i, xs => ∃ v, xs = [v] ∧ ∃ vs, RL ρ I w cells vs ∧ vpR I w i vs v
  | .vpx cells off n i, xs => ∃ v, xs = [v] ∧ (0 ≤ i ∧ i < n) ∧ ∃ vs, RL ρ I w cells vs ∧ vpR I w (off + i.toNat) vs v
  | .fn f first caps, xs => ∃ v, xs = [v] ∧ ∃ x y : Array Value, v = .func f x y ∧ RV ρ I w first x.toList ∧ RV ρ I w caps y.toList
  | .agg l, xs => RL ρ I w l xs
  | .tup l, xs => ∃ v, xs = [v] ∧ ∃ cs : Array Value, v = .tuple cs ∧ RV ρ I w l cs.toList
def RL (ρ : Rho) (I : Imm) (w : World) : List AV → List Value → Prop
  | [], xs => xs = []
  | a :: as, xs => ∃ ys zs, xs = ys ++ zs ∧ R ρ I w a ys ∧ RL ρ I w as zs
def RV (ρ : Rho) (I : Imm) (w : World) : List AV → List Value → Prop
  | [], vs => vs = []
  | a :: as, vs => ∃ x xs, vs = x :: xs ∧ valOf a x (R ρ I w a) ∧ RV ρ I w as xs
end

/-- What an abstract value says of a value. -/
def rel (ρ : Rho) (I : Imm) (w : World) (a : AV) (v : Value) : Prop := valOf a v (R ρ I w a)

/-- What a value's reading hangs on is kept. -/
structure Mono (ρ : Rho) (I : Imm) (w : World) (ρ' : Rho) (I' : Imm) (w' : World) : Prop where
  ext : ∀ id x, ρ id = some x → ρ' id = some x
  imm : ∀ b o, I b o → I' b o ∧ w'.cell? ⟨b, o, none⟩ = w.cell? ⟨b, o, none⟩
  sz : ∀ b, b < w.heap.size → b < w'.heap.size ∧ bsz w' b = bsz w b

theorem Mono.none {ρ : Rho} {I : Imm} {w : World} {ρ' : Rho} {I' : Imm} {w' : World} (m : Mono ρ I w ρ' I' w') : Mono (fun _ => none) I w (fun _ => none) I' w' :=
  ⟨fun _ _ h => h, m.imm, m.sz⟩

theorem Lies.mono {I I' : Imm} {w w' : World} (h : ∀ b o, I b o → I' b o ∧ w'.cell? ⟨b, o, none⟩ = w.cell? ⟨b, o, none⟩) {b off : Nat} {vs : List Value}
    (hl : Lies I w b off vs) : Lies I' w' b off vs := fun i x hx => by
  obtain ⟨h1, h2⟩ := hl i x hx
  exact ⟨(h _ _ h2).2.trans h1, (h _ _ h2).1⟩

section mono
variable {ρ : Rho} {I : Imm} {w : World} {ρ' : Rho} {I' : Imm} {w' : World}

theorem vecR.mono (m : Mono ρ I w ρ' I' w') {full : Bool} {len : Nat} {vs : List Value} {v : Value} (h : vecR I w full len vs v) : vecR I' w' full len vs v := by
  obtain ⟨a, cap, h1, h2, h3, h4⟩ := h
  exact ⟨a, cap, h1, h2, h3, h4.imp id fun ⟨b, off, k1, k2, k3⟩ => ⟨b, off, k1, (m.sz b k2).1, k3.mono m.imm⟩⟩
theorem slR.mono (m : Mono ρ I w ρ' I' w') {id off k len : Nat} {v : Value} (h : slR ρ w id off k len v) : slR ρ' w' id off k len v := by
  rcases h with ⟨b, cap, h1, h2, h3, h4, h5⟩ | h
  · exact .inl ⟨b, cap, m.ext _ _ h1, h2, h3, (m.sz b h4).1, (m.sz b h4).2 ▸ h5⟩
  · exact .inr h
theorem vpR.mono (m : Mono ρ I w ρ' I' w') {i : Nat} {vs : List Value} {v : Value} (h : vpR I w i vs v) : vpR I' w' i vs v := by
  obtain ⟨b, off, h1, h2⟩ := h
  exact ⟨b, off, h1, h2.mono m.imm⟩

theorem valOf.imp {a : AV} {v : Value} {Ra Ra' : List Value → Prop} (h : ∀ xs, Ra xs → Ra' xs) (hv : valOf a v Ra) : valOf a v Ra' := by
  cases a <;> simp only [valOf] at hv ⊢ <;> first | trivial | exact h _ hv | (obtain ⟨cs, h1, h2⟩ := hv; exact ⟨cs, h1, h _ h2⟩)

mutual
theorem R_mono (m : Mono ρ I w ρ' I' w') : ∀ (a : AV) (xs : List Value), R ρ I w a xs → R ρ' I' w' a xs
  | .any, _, h => h
  | .raw _, _, h => h
  | .int _ _, _, h => h
  | .u8 _, _, h => h
  | .u32 _, _, h => h
  | .u64 _, _, h => h
  | .bool _, _, h => h
  | .str _, _, h => h
  | .b8 _ _, _, h => h
  | .w32 _ _, _, h => h
  | .w64 _ _, _, h => h
  | .n64 _ _, _, h => h
  | .ptr _ _, _, ⟨v, h0, b, h1, h2⟩ => ⟨v, h0, b, m.ext _ _ h1, h2⟩
  | .pix _ _ _ _, _, ⟨v, h0, b, h1, h2, h3⟩ => ⟨v, h0, b, m.ext _ _ h1, h2, h3⟩
  | .sl _ _ _ _, _, ⟨v, h0, h1⟩ => ⟨v, h0, h1.mono m⟩
  | .vec8 _ _, _, ⟨v, h0, h1⟩ => ⟨v, h0, h1.mono m⟩
  | .vec _ _ rows, _, ⟨v, h0, h1, vs, h2, h3⟩ => ⟨v, h0, h1, vs, RL_mono m rows vs h2, h3.mono m⟩
  | .vecr _ _ _ f, _, ⟨v, h0, h1, vs, hl, h2, h3⟩ => ⟨v, h0, h1, vs, hl, fun i hi => RL_mono m (f i) _ (h2 i hi), h3.mono m⟩
  | .slv _ _ _ f, _, ⟨v, h0, h1, ⟨vs, hl, h2, h3⟩, h4⟩ => ⟨v, h0, h1, ⟨vs, hl, fun i hi => RL_mono m (f i) _ (h2 i hi), h3.mono m⟩, h4.mono m⟩
  | .vp cells _, _, ⟨v, h0, vs, h2, h3⟩ => ⟨v, h0, vs, RL_mono m cells vs h2, h3.mono m⟩
  | .vpx cells _ _ _, _, ⟨v, h0, h1, vs, h2, h3⟩ => ⟨v, h0, h1, vs, RL_mono m cells vs h2, h3.mono m⟩
  | .fn _ first caps, _, ⟨v, h0, x, y, h1, h2, h3⟩ => ⟨v, h0, x, y, h1, RV_mono m first _ h2, RV_mono m caps _ h3⟩
  | .agg l, _, h => RL_mono m l _ h
  | .tup l, _, ⟨v, h0, cs, h1, h2⟩ => ⟨v, h0, cs, h1, RV_mono m l _ h2⟩
theorem RL_mono (m : Mono ρ I w ρ' I' w') : ∀ (l : List AV) (xs : List Value), RL ρ I w l xs → RL ρ' I' w' l xs
  | [], _, h => h
  | a :: as, _, ⟨ys, zs, h0, h1, h2⟩ => ⟨ys, zs, h0, R_mono m a ys h1, RL_mono m as zs h2⟩
theorem RV_mono (m : Mono ρ I w ρ' I' w') : ∀ (l : List AV) (vs : List Value), RV ρ I w l vs → RV ρ' I' w' l vs
  | [], _, h => h
  | a :: as, _, ⟨x, xs, h0, h1, h2⟩ => ⟨x, xs, h0, h1.imp (R_mono m a), RV_mono m as xs h2⟩
end
theorem rel_mono (m : Mono ρ I w ρ' I' w') {a : AV} {v : Value} (h : rel ρ I w a v) : rel ρ' I' w' a v := valOf.imp (R_mono m a) h
end mono

section lists
variable {ρ : Rho} {I : Imm} {w : World}

theorem rel_u8 {x : UInt8} {v : Value} : rel ρ I w (.u8 x) v ↔ v = .int .u8 x.toNat := by simp [rel, valOf, R]
theorem rel_u32 {x : UInt32} {v : Value} : rel ρ I w (.u32 x) v ↔ v = .int .u32 x.toNat := by simp [rel, valOf, R]
theorem rel_u64 {x : UInt64} {v : Value} : rel ρ I w (.u64 x) v ↔ v = .int .u64 x.toNat := by simp [rel, valOf, R]
theorem rel_int {k : IntKind} {n : Int} {v : Value} : rel ρ I w (.int k n) v ↔ v = .int k n := by simp [rel, valOf, R]
theorem rel_bool {b : Bool} {v : Value} : rel ρ I w (.bool b) v ↔ v = .bool b := by simp [rel, valOf, R]
theorem rel_str {s : List UInt8} {v : Value} : rel ρ I w (.str s) v ↔ v = .string ⟨s.toArray⟩ := by simp [rel, valOf, R]
theorem rel_raw {x : Value} {v : Value} : rel ρ I w (.raw x) v ↔ v = x := by simp [rel, valOf, R]
theorem rel_any {v : Value} : rel ρ I w .any v := trivial
theorem rel_ptr {id off : Nat} {v : Value} : rel ρ I w (.ptr id off) v ↔ ∃ b, ρ id = some (some b) ∧ v = .pointer (some ⟨b, off, none⟩) := by
  simp only [rel, valOf, R]; constructor
  · rintro ⟨_, h, h1⟩; simp only [List.cons.injEq, and_true] at h; subst h; exact h1
  · intro h; exact ⟨_, rfl, h⟩
theorem rel_pix {id off n : Nat} {i : Int} {v : Value} : rel ρ I w (.pix id off n i) v ↔ ∃ b, ρ id = some (some b) ∧ (0 ≤ i ∧ i < n) ∧ v = .pointer (some ⟨b, off + i.toNat, none⟩) := by
  simp only [rel, valOf, R]; constructor
  · rintro ⟨_, h, h1⟩; simp only [List.cons.injEq, and_true] at h; subst h; exact h1
  · intro h; exact ⟨_, rfl, h⟩
theorem rel_sl {id off k len : Nat} {v : Value} : rel ρ I w (.sl id off k len) v ↔ slR ρ w id off k len v := by
  simp only [rel, valOf, R]; constructor
  · rintro ⟨_, h, h1⟩; simp only [List.cons.injEq, and_true] at h; subst h; exact h1
  · intro h; exact ⟨_, rfl, h⟩
theorem rel_vec8 {full : Bool} {l : List UInt8} {v : Value} : rel ρ I w (.vec8 full l) v ↔ vecR I w full l.length (v8 l) v := by
  simp only [rel, valOf, R]; constructor
  · rintro ⟨_, h, h1⟩; simp only [List.cons.injEq, and_true] at h; subst h; exact h1
  · intro h; exact ⟨_, rfl, h⟩
theorem rel_vec {full : Bool} {k : Nat} {rows : List AV} {v : Value} : rel ρ I w (.vec full k rows) v ↔ (∀ a ∈ rows, szA a = k) ∧ ∃ vs, RL ρ I w rows vs ∧ vecR I w full rows.length vs v := by
  simp only [rel, valOf, R]; constructor
  · rintro ⟨_, h, h1⟩; simp only [List.cons.injEq, and_true] at h; subst h; exact h1
  · intro h; exact ⟨_, rfl, h⟩
theorem rel_vecr {full : Bool} {k n : Nat} {f : Nat → List AV} {v : Value} : rel ρ I w (.vecr full k n f) v ↔ (∀ i, i < n → okL (f i) = true) ∧ ∃ vs, vs.length = n * k ∧ (∀ i, i < n → RL ρ I w (f i) ((vs.drop (i * k)).take k)) ∧ vecR I w full n vs v := by
  simp only [rel, valOf, R]; constructor
  · rintro ⟨_, h, h1⟩; simp only [List.cons.injEq, and_true] at h; subst h; exact h1
  · intro h; exact ⟨_, rfl, h⟩
theorem rel_slv {id k n : Nat} {f : Nat → List AV} {v : Value} : rel ρ I w (.slv id k n f) v ↔ rel ρ I w (.vecr false k n f) v ∧ slR ρ w id 0 k n v := by
  rw [rel_vecr]
  simp only [rel, valOf, R]; constructor
  · rintro ⟨_, h, h1, h2, h3⟩; simp only [List.cons.injEq, and_true] at h; subst h; exact ⟨⟨h1, h2⟩, h3⟩
  · intro ⟨⟨h1, h2⟩, h3⟩; exact ⟨_, rfl, h1, h2, h3⟩
theorem rel_vp {cells : List AV} {i : Nat} {v : Value} : rel ρ I w (.vp cells i) v ↔ ∃ vs, RL ρ I w cells vs ∧ vpR I w i vs v := by
  simp only [rel, valOf, R]; constructor
  · rintro ⟨_, h, h1⟩; simp only [List.cons.injEq, and_true] at h; subst h; exact h1
  · intro h; exact ⟨_, rfl, h⟩
theorem rel_vpx {cells : List AV} {off n : Nat} {i : Int} {v : Value} : rel ρ I w (.vpx cells off n i) v ↔ (0 ≤ i ∧ i < n) ∧ ∃ vs, RL ρ I w cells vs ∧ vpR I w (off + i.toNat) vs v := by
  simp only [rel, valOf, R]; constructor
  · rintro ⟨_, h, h1⟩; simp only [List.cons.injEq, and_true] at h; subst h; exact h1
  · intro h; exact ⟨_, rfl, h⟩
theorem rel_fn {f : Fn} {first caps : List AV} {v : Value} : rel ρ I w (.fn f first caps) v ↔ ∃ x y : Array Value, v = .func f x y ∧ RV ρ I w first x.toList ∧ RV ρ I w caps y.toList := by
  simp only [rel, valOf, R]; constructor
  · rintro ⟨_, h, h1⟩; simp only [List.cons.injEq, and_true] at h; subst h; exact h1
  · intro h; exact ⟨_, rfl, h⟩
theorem rel_tup {l : List AV} {v : Value} : rel ρ I w (.tup l) v ↔ ∃ cs : Array Value, v = .tuple cs ∧ RV ρ I w l cs.toList := by
  simp only [rel, valOf, R]; constructor
  · rintro ⟨_, h, h1⟩; simp only [List.cons.injEq, and_true] at h; subst h; exact h1
  · intro h; exact ⟨_, rfl, h⟩
theorem rel_agg {l : List AV} {v : Value} : rel ρ I w (.agg l) v ↔ ∃ cs : Array Value, v = .agg cs ∧ RL ρ I w l cs.toList := by simp [rel, valOf, R]
theorem rel_b8 {n : Nat} {l : List UInt8} {v : Value} : rel ρ I w (.b8 n l) v ↔ ∃ cs : Array Value, v = .agg cs ∧ cs.toList = v8 l ∧ l.length = n := by simp [rel, valOf, R]
theorem rel_w32 {n : Nat} {l : List UInt32} {v : Value} : rel ρ I w (.w32 n l) v ↔ ∃ cs : Array Value, v = .agg cs ∧ cs.toList = v32 l ∧ l.length = n := by simp [rel, valOf, R]
theorem rel_w64 {n : Nat} {l : List UInt64} {v : Value} : rel ρ I w (.w64 n l) v ↔ ∃ cs : Array Value, v = .agg cs ∧ cs.toList = v64 l ∧ l.length = n := by simp [rel, valOf, R]

theorem rel_n64 {n : Nat} {l : List Int} {v : Value} : rel ρ I w (.n64 n l) v ↔ ∃ cs : Array Value, v = .agg cs ∧ cs.toList = vi64 l ∧ l.length = n := by simp [rel, valOf, R]

theorem RV_nil {vs : List Value} : RV ρ I w [] vs ↔ vs = [] := by simp [RV]
theorem RV_cons {a : AV} {as : List AV} {vs : List Value} : RV ρ I w (a :: as) vs ↔ ∃ x xs, vs = x :: xs ∧ rel ρ I w a x ∧ RV ρ I w as xs := by simp [RV, rel]
theorem RL_nil {vs : List Value} : RL ρ I w [] vs ↔ vs = [] := by simp [RL]
theorem RL_cons {a : AV} {as : List AV} {xs : List Value} : RL ρ I w (a :: as) xs ↔ ∃ ys zs, xs = ys ++ zs ∧ R ρ I w a ys ∧ RL ρ I w as zs := by simp [RL]

theorem RV_len : ∀ {l : List AV} {vs : List Value}, RV ρ I w l vs → l.length = vs.length
  | [], _, h => by rw [RV_nil] at h; simp [h]
  | a :: as, _, h => by
    obtain ⟨x, xs, rfl, _, h3⟩ := RV_cons.1 h
    simp [RV_len h3]

theorem RV_iff {l : List AV} : ∀ {vs : List Value}, RV ρ I w l vs ↔ l.length = vs.length ∧ ∀ (i : Nat) (a : AV) (x : Value), l[i]? = some a → vs[i]? = some x → rel ρ I w a x := by
  induction l with
  | nil => intro vs; rw [RV_nil]; constructor
           · rintro rfl; simp
           · rintro ⟨h, _⟩; exact List.eq_nil_of_length_eq_zero h.symm
  | cons a as ih =>
    intro vs
    rw [RV_cons]
    constructor
    · rintro ⟨x, xs, rfl, h1, h2⟩
      obtain ⟨g1, g2⟩ := ih.1 h2
      refine ⟨by simp [g1], fun i b y hb hy => ?_⟩
      cases i with
      | zero => simp at hb hy; subst hb; subst hy; exact h1
      | succ i => simp at hb hy; exact g2 i b y hb hy
    · rintro ⟨h1, h2⟩
      cases vs with
      | nil => simp at h1
      | cons x xs =>
        refine ⟨x, xs, rfl, h2 0 a x rfl rfl, ih.2 ⟨by simpa using h1, fun i b y hb hy => h2 (i + 1) b y (by simpa using hb) (by simpa using hy)⟩⟩

theorem RV_get {l : List AV} {vs : List Value} (h : RV ρ I w l vs) {i : Nat} {a : AV} (ha : l[i]? = some a) : ∃ x, vs[i]? = some x ∧ rel ρ I w a x := by
  obtain ⟨h1, h2⟩ := RV_iff.1 h
  have hi : i < vs.length := by
    have := (List.getElem?_eq_some_iff.1 ha).1; omega
  exact ⟨vs[i], by simp [hi], h2 i a _ ha (by simp [hi])⟩

theorem RV_getD {l : List AV} {vs : List Value} (h : RV ρ I w l vs) (i : Nat) : rel ρ I w (l.getD i .any) (vs.getD i undef) := by
  rw [List.getD_eq_getElem?_getD, List.getD_eq_getElem?_getD]
  cases ha : l[i]? with
  | none => exact rel_any
  | some a =>
    obtain ⟨x, hx, hr⟩ := RV_get h ha
    simpa [hx] using hr

theorem RV_append {l l' : List AV} {vs vs' : List Value} (h : RV ρ I w l vs) (h' : RV ρ I w l' vs') : RV ρ I w (l ++ l') (vs ++ vs') := by
  induction l generalizing vs with
  | nil => rw [RV_nil] at h; subst h; simpa using h'
  | cons a as ih =>
    obtain ⟨x, xs, rfl, h1, h2⟩ := RV_cons.1 h
    exact RV_cons.2 ⟨x, xs ++ vs', rfl, h1, ih h2⟩

theorem RV_set {l : List AV} {vs : List Value} (h : RV ρ I w l vs) (n : Nat) {a : AV} {x : Value} (ha : rel ρ I w a x) : RV ρ I w (l.set n a) (vs.set n x) := by
  obtain ⟨h1, h2⟩ := RV_iff.1 h
  refine RV_iff.2 ⟨by simp [h1], fun i b y hb hy => ?_⟩
  rw [List.getElem?_set] at hb hy
  by_cases e : n = i
  · simp only [e, if_true] at hb hy
    split at hb <;> split at hy <;> simp_all
  · simp only [e, if_false] at hb hy
    exact h2 i b y hb hy

theorem RV_replicate {a : AV} {x : Value} (h : rel ρ I w a x) (n : Nat) : RV ρ I w (List.replicate n a) (List.replicate n x) := by
  refine RV_iff.2 ⟨by simp, fun i b y hb hy => ?_⟩
  rw [List.getElem?_replicate] at hb hy
  split at hb <;> simp_all

theorem length_v8 (l : List UInt8) : (v8 l).length = l.length := by simp [v8]
theorem length_v32 (l : List UInt32) : (v32 l).length = l.length := by simp [v32]
theorem length_v64 (l : List UInt64) : (v64 l).length = l.length := by simp [v64]
theorem length_vi64 (l : List Int) : (vi64 l).length = l.length := by simp [vi64]

mutual
theorem R_len : ∀ (a : AV) (xs : List Value), R ρ I w a xs → xs.length = szA a
  | .any, _, ⟨_, h⟩ => by subst h; rfl
  | .raw _, _, h => by cases h; rfl
  | .int _ _, _, h => by cases h; rfl
  | .u8 _, _, h => by cases h; rfl
  | .u32 _, _, h => by cases h; rfl
  | .u64 _, _, h => by cases h; rfl
  | .bool _, _, h => by cases h; rfl
  | .str _, _, h => by cases h; rfl
  | .b8 _ _, _, ⟨h, h'⟩ => by subst h; rw [length_v8]; exact h'
  | .w32 _ _, _, ⟨h, h'⟩ => by subst h; rw [length_v32]; exact h'
  | .w64 _ _, _, ⟨h, h'⟩ => by subst h; rw [length_v64]; exact h'
  | .n64 _ _, _, ⟨h, h'⟩ => by subst h; rw [length_vi64]; exact h'
  | .ptr _ _, _, ⟨_, h, _⟩ => by subst h; rfl
  | .pix _ _ _ _, _, ⟨_, h, _⟩ => by subst h; rfl
  | .sl _ _ _ _, _, ⟨_, h, _⟩ => by subst h; rfl
  | .vec8 _ _, _, ⟨_, h, _⟩ => by subst h; rfl
  | .vec _ _ _, _, ⟨_, h, _⟩ => by subst h; rfl
  | .vecr _ _ _ _, _, ⟨_, h, _⟩ => by subst h; rfl
  | .slv _ _ _ _, _, ⟨_, h, _⟩ => by subst h; rfl
  | .vp _ _, _, ⟨_, h, _⟩ => by subst h; rfl
  | .vpx _ _ _ _, _, ⟨_, h, _⟩ => by subst h; rfl
  | .fn _ _ _, _, ⟨_, h, _⟩ => by subst h; rfl
  | .agg l, _, h => by rw [szA]; exact RL_len l _ h
  | .tup _, _, ⟨_, h, _⟩ => by subst h; rfl
theorem RL_len : ∀ (l : List AV) (xs : List Value), RL ρ I w l xs → xs.length = szL l
  | [], _, h => by cases h; rfl
  | a :: as, _, ⟨ys, zs, h0, h1, h2⟩ => by subst h0; rw [List.length_append, R_len a ys h1, RL_len as zs h2, szL]
end

theorem RL_append {l l' : List AV} {vs vs' : List Value} (h : RL ρ I w l vs) (h' : RL ρ I w l' vs') : RL ρ I w (l ++ l') (vs ++ vs') := by
  induction l generalizing vs with
  | nil => rw [RL_nil] at h; subst h; simpa using h'
  | cons a as ih =>
    obtain ⟨ys, zs, rfl, h1, h2⟩ := RL_cons.1 h
    exact RL_cons.2 ⟨ys, zs ++ vs', by simp, h1, ih h2⟩

end lists

/-- An entry of the abstract memory. 'res': a number for a block that is still to be made. 'blk': a block of just these cells. 'grow8', 'grow': a block that begins with these bytes, these elements (or none at all, if there are none). 'tail': a block of whose first rows (so many, of this size) nobody writes any; what is behind them is owned. 'frz': the places that are written no more. -/
inductive Ent where
  | dead
  | res
  | blk (cells : List AV) (frz : List (Nat × Nat))
  | grow8 (l : List UInt8) (frz : List (Nat × Nat))
  | grow (k : Nat) (rows : List AV) (frz : List (Nat × Nat))
  | tail (k n : Nat)
  deriving Inhabited

def Ent.live : Ent → Bool
  | .dead => false
  | .res => false
  | _ => true

def Ent.frz : Ent → List (Nat × Nat)
  | .dead => []
  | .res => []
  | .blk _ f => f
  | .grow8 _ f => f
  | .grow _ _ f => f
  | .tail k n => [(0, n * k)]

/-- The cells with which the block begins. -/
def Ent.cells : Ent → List AV
  | .blk c _ => c
  | .grow8 l _ => [.b8 l.length l]
  | .grow _ rows _ => rows
  | _ => []

def Ent.grows : Ent → Bool
  | .grow8 _ _ => true
  | .grow _ _ _ => true
  | .tail _ _ => true
  | _ => false

/-- Rows of one size. -/
def Ent.even : Ent → Prop
  | .grow k rows _ => ∀ a ∈ rows, szA a = k
  | _ => True

def inFrz (f : List (Nat × Nat)) (o : Nat) : Prop := ∃ r ∈ f, r.1 ≤ o ∧ o < r.2

abbrev Heap := List Ent

def Own (ρ : Rho) (H : Heap) (b : Nat) : Prop := ∃ id e, H[id]? = some e ∧ e.live = true ∧ ρ id = some (some b)
def Mut (ρ : Rho) (H : Heap) (b o : Nat) : Prop := ∃ id e, H[id]? = some e ∧ e.live = true ∧ ρ id = some (some b) ∧ ¬ inFrz e.frz o

theorem Mut.own {ρ : Rho} {H : Heap} {b o : Nat} (h : Mut ρ H b o) : Own ρ H b :=
  let ⟨id, e, h1, h2, h3, _⟩ := h; ⟨id, e, h1, h2, h3⟩

/-- The model's mark of bytes that a string shares lies behind all cells. -/
def clear (fr : Nat × Nat) (n : Nat) : Prop := fr.1 ≤ fr.2 ∧ ∀ o, o < n → ¬ (fr.1 ≤ o ∧ o < fr.2)

/-- What kind of function it is: one with a body, or one of those that the model stands in for. -/
inductive FK where
  | go | add64 | sub64 | bad
  deriving DecidableEq, Inhabited

/-- A variable of which nothing is told holds a number. -/
def gtyp (c : List AV) (vs : List Value) : Prop := match c with
  | [.any] => ∃ k, vs = [.int .i64 k]
  | _ => True
def gfree (c : List AV) : Bool := match c with
  | [.any] => false
  | _ => true
theorem gtyp_of {c : List AV} {vs : List Value} (h : gfree c = true) : gtyp c vs := by
  rcases Classical.em (c = [AV.any]) with rfl | hn
  · exact absurd h (by simp [gfree])
  · unfold gtyp
    split
    · exact absurd rfl hn
    · trivial
/-- What a package's variable holds. -/
def GL (I : Imm) (w : World) (c : List AV) (vs : List Value) : Prop := RL (fun _ => none) I w c vs ∧ gtyp c vs
theorem GL_mono {ρ : Rho} {I : Imm} {w : World} {ρ' : Rho} {I' : Imm} {w' : World} (m : Mono ρ I w ρ' I' w') {c : List AV} {vs : List Value} (h : GL I w c vs) : GL I' w' c vs := ⟨RL_mono m.none _ _ h.1, h.2⟩
structure Conc (g : Nat → Option (List AV)) (ρ : Rho) (I : Imm) (H : Heap) (w : World) : Prop where
  dom : ∀ id, ρ id ≠ none → id < H.length
  res : ∀ id, H[id]? = some .res → ρ id = none
  blt : ∀ id b, ρ id = some (some b) → b < w.heap.size
  inj : ∀ (i j b : Nat) (e e' : Ent), H[i]? = some e → e.live = true → H[j]? = some e' → e'.live = true → ρ i = some (some b) → ρ j = some (some b) → i = j
  blk : ∀ id c f, H[id]? = some (.blk c f) → ∃ b el fr cs, ρ id = some (some b) ∧ w.heap[b]? = some (.cells (List.toArray cs) el fr) ∧ RL ρ I w c cs ∧ clear fr cs.length
  grow : ∀ id e, H[id]? = some e → e.grows = true → e.even ∧ ((ρ id = some none ∧ szL e.cells = 0) ∨
    ∃ b el fr cs rest, ρ id = some (some b) ∧ w.heap[b]? = some (.cells (List.toArray (cs ++ rest)) el fr) ∧ RL ρ I w e.cells cs ∧ clear fr (cs ++ rest).length)
  imm : ∀ b o, I b o → b < w.heap.size ∧ ¬ Mut ρ H b o
  glob : ∀ n c, g n = some c → ∃ vs, GL I w c vs ∧ Lies I w n 0 vs

/-- Numbers of the abstract memory whose block may be another one behind an append. -/
def grw (H : Heap) (id : Nat) : Prop := ∃ e, H[id]? = some e ∧ e.grows = true

/-- What is kept from one state to another: of old memory only what is owned may turn. -/
structure Good (ρ : Rho) (I : Imm) (H : Heap) (w : World) (ρ' : Rho) (I' : Imm) (H' : Heap) (w' : World) : Prop where
  ext : ∀ id x, ρ id = some x → ρ' id = some x
  kp : ∀ id x, ρ id = some x → grw H' id → grw H id
  len : H.length ≤ H'.length
  imm : ∀ b o, I b o → I' b o
  imm' : ∀ b o, b < w.heap.size → I' b o → I b o ∨ Mut ρ H b o
  os : w'.os = w.os
  tape : w'.tape = w.tape
  out : w'.output = w.output
  size : w.heap.size ≤ w'.heap.size
  cell : ∀ b o, b < w.heap.size → ¬ Mut ρ H b o → w'.cell? ⟨b, o, none⟩ = w.cell? ⟨b, o, none⟩
  block : ∀ b, b < w.heap.size → (∀ o, ¬ Mut ρ H b o) → w'.heap[b]? = w.heap[b]?
  bs : ∀ b, b < w.heap.size → bsz w' b = bsz w b
  wrt : ∀ b o, b < w.heap.size → Mut ρ' H' b o → Mut ρ H b o
  own : ∀ b, b < w.heap.size → Own ρ' H' b → Own ρ H b

theorem Good.refl (ρ : Rho) (I : Imm) (H : Heap) (w : World) : Good ρ I H w ρ I H w where
  ext := fun _ _ h => h
  kp := fun _ _ _ h => h
  len := Nat.le_refl _
  imm := fun _ _ h => h
  imm' := fun _ _ _ h => .inl h
  os := rfl
  tape := rfl
  out := rfl
  size := Nat.le_refl _
  cell := fun _ _ _ _ => rfl
  block := fun _ _ _ => rfl
  bs := fun _ _ => rfl
  wrt := fun _ _ _ h => h
  own := fun _ _ h => h

theorem Good.trans {ρ : Rho} {I : Imm} {H : Heap} {w : World} {ρ1 : Rho} {I1 : Imm} {H1 : Heap} {w1 : World} {ρ2 : Rho} {I2 : Imm} {H2 : Heap} {w2 : World}
    (a : Good ρ I H w ρ1 I1 H1 w1) (b : Good ρ1 I1 H1 w1 ρ2 I2 H2 w2) : Good ρ I H w ρ2 I2 H2 w2 where
  ext := fun id x h => b.ext id x (a.ext id x h)
  kp := fun id x h g => a.kp id x h (b.kp id x (a.ext id x h) g)
  len := Nat.le_trans a.len b.len
  imm := fun x o h => b.imm _ _ (a.imm _ _ h)
  imm' := fun x o h k => by
    rcases b.imm' x o (Nat.lt_of_lt_of_le h a.size) k with g | g
    · exact a.imm' x o h g
    · exact .inr (a.wrt x o h g)
  os := b.os.trans a.os
  tape := b.tape.trans a.tape
  out := b.out.trans a.out
  size := Nat.le_trans a.size b.size
  cell := fun x o h k => (b.cell x o (Nat.lt_of_lt_of_le h a.size) (fun g => k (a.wrt x o h g))).trans (a.cell x o h k)
  block := fun x h k => (b.block x (Nat.lt_of_lt_of_le h a.size) (fun o g => k o (a.wrt x o h g))).trans (a.block x h k)
  bs := fun x h => (b.bs x (Nat.lt_of_lt_of_le h a.size)).trans (a.bs x h)
  wrt := fun x o h g => a.wrt x o h (b.wrt x o (Nat.lt_of_lt_of_le h a.size) g)
  own := fun x h g => a.own x h (b.own x (Nat.lt_of_lt_of_le h a.size) g)

/-- Where no number's block is another one now, what values say is kept. -/
theorem Conc.mono {g : Nat → Option (List AV)} {ρ : Rho} {I : Imm} {H : Heap} {w : World} {ρ' : Rho} {I' : Imm} {H' : Heap} {w' : World}
    (c : Conc g ρ I H w) (k : Good ρ I H w ρ' I' H' w') (he : ∀ id x, ρ id = some x → ρ' id = some x) : Mono ρ I w ρ' I' w' where
  ext := he
  imm := fun b o h => by
    obtain ⟨h1, h2⟩ := c.imm b o h
    exact ⟨k.imm b o h, k.cell b o h1 h2⟩
  sz := fun b h => ⟨Nat.lt_of_lt_of_le h k.size, k.bs b h⟩

mutual
/-- References to some entries forgotten. -/
def killA (S : Nat → Bool) : AV → AV
  | .ptr id off => bif S id then .any else .ptr id off
  | .pix id off n i => bif S id then .any else .pix id off n i
  | .sl id off k len => bif S id then .any else .sl id off k len
  | .slv id k n f => bif S id then .any else .slv id k n f
  | .vec f k rows => .vec f k (killL S rows)
  | .vp cells i => .vp (killL S cells) i
  | .vpx cells off n i => .vpx (killL S cells) off n i
  | .fn f a b => .fn f (killL S a) (killL S b)
  | .agg l => .agg (killL S l)
  | .tup l => .tup (killL S l)
  | a => a
def killL (S : Nat → Bool) : List AV → List AV
  | [] => []
  | a :: as => killA S a :: killL S as
end

mutual
/-- References with other numbers. -/
def renA (σ : Nat → Nat) : AV → AV
  | .ptr id off => .ptr (σ id) off
  | .pix id off n i => .pix (σ id) off n i
  | .sl id off k len => .sl (σ id) off k len
  | .slv id k n f => .slv (σ id) k n f
  | .vec f k rows => .vec f k (renL σ rows)
  | .vp cells i => .vp (renL σ cells) i
  | .vpx cells off n i => .vpx (renL σ cells) off n i
  | .fn f a b => .fn f (renL σ a) (renL σ b)
  | .agg l => .agg (renL σ l)
  | .tup l => .tup (renL σ l)
  | a => a
def renL (σ : Nat → Nat) : List AV → List AV
  | [] => []
  | a :: as => renA σ a :: renL σ as
end

mutual
/-- References to entries of these numbers alone. -/
def refsA (n : Nat) : AV → Bool
  | .ptr id _ => n - id != 0
  | .pix id _ _ _ => n - id != 0
  | .sl id _ _ _ => n - id != 0
  | .slv id _ _ _ => n - id != 0
  | .vec _ _ rows => refsL n rows
  | .vp cells _ => refsL n cells
  | .vpx cells _ _ _ => refsL n cells
  | .fn _ a b => refsL n a && refsL n b
  | .agg l => refsL n l
  | .tup l => refsL n l
  | _ => true
def refsL (n : Nat) : List AV → Bool
  | [] => true
  | a :: as => refsA n a && refsL n as
end

section maps
variable {ρ : Rho} {I : Imm} {w : World}

mutual
theorem sz_killA (S : Nat → Bool) : ∀ a, szA (killA S a) = szA a
  | .ptr id off => by cases h : S id <;> simp [killA, h, szA]
  | .pix id off n i => by cases h : S id <;> simp [killA, h, szA]
  | .sl id off k len => by cases h : S id <;> simp [killA, h, szA]
  | .slv id k n f => by cases h : S id <;> simp [killA, h, szA]
  | .agg l => by simp only [killA, szA]; exact sz_killL S l
  | .any | .raw _ | .int _ _ | .u8 _ | .u32 _ | .u64 _ | .bool _ | .str _ | .b8 _ _ | .w32 _ _ | .w64 _ _ | .n64 _ _ | .vec8 _ _ | .vec _ _ _ | .vecr _ _ _ _ | .vp _ _ | .vpx _ _ _ _ | .fn _ _ _ | .tup _ => by simp only [killA, szA]
theorem sz_killL (S : Nat → Bool) : ∀ l, szL (killL S l) = szL l
  | [] => rfl
  | a :: as => by simp only [killL, szL, sz_killA S a, sz_killL S as]
end
mutual
theorem sz_renA (σ : Nat → Nat) : ∀ a, szA (renA σ a) = szA a
  | .agg l => by simp only [renA, szA]; exact sz_renL σ l
  | .ptr _ _ | .pix _ _ _ _ | .sl _ _ _ _ | .slv _ _ _ _ | .any | .raw _ | .int _ _ | .u8 _ | .u32 _ | .u64 _ | .bool _ | .str _ | .b8 _ _ | .w32 _ _ | .w64 _ _ | .n64 _ _ | .vec8 _ _ | .vec _ _ _ | .vecr _ _ _ _ | .vp _ _ | .vpx _ _ _ _ | .fn _ _ _ | .tup _ => by simp only [renA, szA]
theorem sz_renL (σ : Nat → Nat) : ∀ l, szL (renL σ l) = szL l
  | [] => rfl
  | a :: as => by simp only [renL, szL, sz_renA σ a, sz_renL σ as]
end
theorem len_killL (S : Nat → Bool) : ∀ l, (killL S l).length = l.length
  | [] => rfl
  | a :: as => by simp [killL, len_killL S as]
theorem len_renL (σ : Nat → Nat) : ∀ l, (renL σ l).length = l.length
  | [] => rfl
  | a :: as => by simp [renL, len_renL σ as]
theorem even_killL (S : Nat → Bool) {k : Nat} : ∀ {l : List AV}, (∀ a ∈ l, szA a = k) → ∀ a ∈ killL S l, szA a = k
  | [], _ => fun a h => by simp [killL] at h
  | b :: bs, h => fun a ha => by
    simp only [killL, List.mem_cons] at ha
    rcases ha with rfl | ha
    · rw [sz_killA]; exact h b (by simp)
    · exact even_killL S (fun a h' => h a (by simp [h'])) a ha
theorem even_renL (σ : Nat → Nat) {k : Nat} : ∀ {l : List AV}, (∀ a ∈ renL σ l, szA a = k) ↔ (∀ a ∈ l, szA a = k)
  | [] => by simp [renL]
  | b :: bs => by
    simp only [renL, List.mem_cons, forall_eq_or_imp, sz_renA, even_renL σ (l := bs)]

mutual
theorem killA_pure {S : Nat → Bool} : ∀ a, pureA a = true → killA S a = a
  | .ptr _ _, h | .pix _ _ _ _, h | .sl _ _ _ _, h | .slv _ _ _ _, h => by simp [pureA] at h
  | .vec _ _ rows, h => by simp only [killA, killL_pure rows (by simpa [pureA] using h)]
  | .vp cells _, h => by simp only [killA, killL_pure cells (by simpa [pureA] using h)]
  | .vpx cells _ _ _, h => by simp only [killA, killL_pure cells (by simpa [pureA] using h)]
  | .fn _ a b, h => by
    simp only [pureA, Bool.and_eq_true] at h
    simp only [killA, killL_pure a h.1, killL_pure b h.2]
  | .agg l, h => by simp only [killA, killL_pure l (by simpa [pureA] using h)]
  | .tup l, h => by simp only [killA, killL_pure l (by simpa [pureA] using h)]
  | .any, _ | .raw _, _ | .int _ _, _ | .u8 _, _ | .u32 _, _ | .u64 _, _ | .bool _, _ | .str _, _ | .b8 _ _, _ | .w32 _ _, _ | .w64 _ _, _ | .n64 _ _, _ | .vec8 _ _, _ | .vecr _ _ _ _, _ => by simp only [killA]
theorem killL_pure {S : Nat → Bool} : ∀ l, pureL l = true → killL S l = l
  | [], _ => rfl
  | a :: as, h => by
    simp only [pureL, Bool.and_eq_true] at h
    simp only [killL, killA_pure a h.1, killL_pure as h.2]
end

/-- What values say, but for references to some entries, is kept. -/
structure MonoBut (S : Nat → Bool) (ρ : Rho) (I : Imm) (w : World) (ρ' : Rho) (I' : Imm) (w' : World) : Prop where
  ext : ∀ id x, S id = false → ρ id = some x → ρ' id = some x
  imm : ∀ b o, I b o → I' b o ∧ w'.cell? ⟨b, o, none⟩ = w.cell? ⟨b, o, none⟩
  sz : ∀ b, b < w.heap.size → b < w'.heap.size ∧ bsz w' b = bsz w b

theorem vecR.monoB {S : Nat → Bool} {ρ' : Rho} {I' : Imm} {w' : World} (m : MonoBut S ρ I w ρ' I' w') {full : Bool} {len : Nat} {vs : List Value} {v : Value} (h : vecR I w full len vs v) : vecR I' w' full len vs v := by
  obtain ⟨a, cap, h1, h2, h3, h4⟩ := h
  exact ⟨a, cap, h1, h2, h3, h4.imp id fun ⟨b, off, k1, k2, k3⟩ => ⟨b, off, k1, (m.sz b k2).1, k3.mono m.imm⟩⟩
theorem vpR.monoB {S : Nat → Bool} {ρ' : Rho} {I' : Imm} {w' : World} (m : MonoBut S ρ I w ρ' I' w') {i : Nat} {vs : List Value} {v : Value} (h : vpR I w i vs v) : vpR I' w' i vs v := by
  obtain ⟨b, off, h1, h2⟩ := h
  exact ⟨b, off, h1, h2.mono m.imm⟩

theorem valOf_kill {S : Nat → Bool} {a : AV} {v : Value} {Ra Ra' : List Value → Prop} (h : ∀ xs, Ra xs → Ra' xs) (hv : valOf a v Ra) : valOf (killA S a) v Ra' := by
  cases a <;> simp only [killA] <;> first | exact valOf.imp h hv | skip
  all_goals
    cases hs : S _
    · simp only [valOf, cond_false] at hv ⊢; exact h _ hv
    · simp only [cond_true]; trivial

mutual
theorem R_kill {S : Nat → Bool} {ρ' : Rho} {I' : Imm} {w' : World} (m : MonoBut S ρ I w ρ' I' w') : ∀ (a : AV) (xs : List Value), R ρ I w a xs → R ρ' I' w' (killA S a) xs
  | .any, _, h => h
  | .raw _, _, h => h
  | .int _ _, _, h => h
  | .u8 _, _, h => h
  | .u32 _, _, h => h
  | .u64 _, _, h => h
  | .bool _, _, h => h
  | .str _, _, h => h
  | .b8 _ _, _, h => h
  | .w32 _ _, _, h => h
  | .w64 _ _, _, h => h
  | .n64 _ _, _, h => h
  | .ptr id _, _, ⟨v, h0, b, h1, h2⟩ => by
    simp only [killA]
    cases hs : S id
    · exact ⟨v, h0, b, m.ext _ _ hs h1, h2⟩
    · exact ⟨v, h0⟩
  | .pix id _ _ _, _, ⟨v, h0, b, h1, h2, h3⟩ => by
    simp only [killA]
    cases hs : S id
    · exact ⟨v, h0, b, m.ext _ _ hs h1, h2, h3⟩
    · exact ⟨v, h0⟩
  | .sl id _ _ _, _, ⟨v, h0, h1⟩ => by
    simp only [killA]
    cases hs : S id
    · refine ⟨v, h0, ?_⟩
      rcases h1 with ⟨b, cap, h1, h2, h3, h4, h5⟩ | h
      · exact .inl ⟨b, cap, m.ext _ _ hs h1, h2, h3, (m.sz b h4).1, (m.sz b h4).2 ▸ h5⟩
      · exact .inr h
    · exact ⟨v, h0⟩
  | .slv id _ _ f, _, ⟨v, h0, h1, ⟨vs, hl, h2, h3⟩, h4⟩ => by
    simp only [killA]
    cases hs : S id
    · refine ⟨v, h0, h1, ⟨vs, hl, fun i hi => ?_, h3.monoB m⟩, ?_⟩
      · have := RL_kill m (f i) _ (h2 i hi)
        rw [killL_pure (f i) (okL_pure (h1 i hi))] at this
        exact this
      rcases h4 with ⟨b, cap, h1, h2, h3, h4, h5⟩ | h
      · exact .inl ⟨b, cap, m.ext _ _ hs h1, h2, h3, (m.sz b h4).1, (m.sz b h4).2 ▸ h5⟩
      · exact .inr h
    · exact ⟨v, h0⟩
  | .vec8 _ _, _, ⟨v, h0, h1⟩ => ⟨v, h0, h1.monoB m⟩
  | .vec _ _ rows, _, ⟨v, h0, h1, vs, h2, h3⟩ => ⟨v, h0, even_killL S h1, vs, RL_kill m rows vs h2, by rw [len_killL]; exact h3.monoB m⟩
  | .vecr _ _ _ f, _, ⟨v, h0, h1, vs, hl, h2, h3⟩ => ⟨v, h0, h1, vs, hl, fun i hi => by
      have := RL_kill m (f i) _ (h2 i hi)
      rw [killL_pure (f i) (okL_pure (h1 i hi))] at this
      exact this, h3.monoB m⟩
  | .vp cells _, _, ⟨v, h0, vs, h2, h3⟩ => ⟨v, h0, vs, RL_kill m cells vs h2, h3.monoB m⟩
  | .vpx cells _ _ _, _, ⟨v, h0, h1, vs, h2, h3⟩ => ⟨v, h0, h1, vs, RL_kill m cells vs h2, h3.monoB m⟩
  | .fn _ first caps, _, ⟨v, h0, x, y, h1, h2, h3⟩ => ⟨v, h0, x, y, h1, RV_kill m first _ h2, RV_kill m caps _ h3⟩
  | .agg l, _, h => RL_kill m l _ h
  | .tup l, _, ⟨v, h0, cs, h1, h2⟩ => ⟨v, h0, cs, h1, RV_kill m l _ h2⟩
theorem RL_kill {S : Nat → Bool} {ρ' : Rho} {I' : Imm} {w' : World} (m : MonoBut S ρ I w ρ' I' w') : ∀ (l : List AV) (xs : List Value), RL ρ I w l xs → RL ρ' I' w' (killL S l) xs
  | [], _, h => h
  | a :: as, _, ⟨ys, zs, h0, h1, h2⟩ => ⟨ys, zs, h0, R_kill m a ys h1, RL_kill m as zs h2⟩
theorem RV_kill {S : Nat → Bool} {ρ' : Rho} {I' : Imm} {w' : World} (m : MonoBut S ρ I w ρ' I' w') : ∀ (l : List AV) (vs : List Value), RV ρ I w l vs → RV ρ' I' w' (killL S l) vs
  | [], _, h => h
  | a :: as, _, ⟨x, xs, h0, h1, h2⟩ => ⟨x, xs, h0, valOf_kill (R_kill m a) h1, RV_kill m as xs h2⟩
end

mutual
theorem refsA_pure : ∀ (a : AV), pureA a = true → ∀ n, refsA n a = true
  | .vec _ _ rows, h, n => by simp only [refsA]; exact refsL_pure rows (by simpa [pureA] using h) n
  | .vp cells _, h, n => by simp only [refsA]; exact refsL_pure cells (by simpa [pureA] using h) n
  | .vpx cells _ _ _, h, n => by simp only [refsA]; exact refsL_pure cells (by simpa [pureA] using h) n
  | .fn _ a b, h, n => by
    simp only [pureA, Bool.and_eq_true] at h
    simp only [refsA, refsL_pure a h.1 n, refsL_pure b h.2 n, Bool.and_self]
  | .agg l, h, n => by simp only [refsA]; exact refsL_pure l (by simpa [pureA] using h) n
  | .tup l, h, n => by simp only [refsA]; exact refsL_pure l (by simpa [pureA] using h) n
  | .ptr _ _, h, _ | .pix _ _ _ _, h, _ | .sl _ _ _ _, h, _ | .slv _ _ _ _, h, _ => by simp [pureA] at h
  | .any, _, _ | .raw _, _, _ | .int _ _, _, _ | .u8 _, _, _ | .u32 _, _, _ | .u64 _, _, _ | .bool _, _, _ | .str _, _, _ | .b8 _ _, _, _ | .w32 _ _, _, _ | .w64 _ _, _, _ | .n64 _ _, _, _ | .vec8 _ _, _, _ | .vecr _ _ _ _, _, _ => rfl
theorem refsL_pure : ∀ (l : List AV), pureL l = true → ∀ n, refsL n l = true
  | [], _, _ => rfl
  | a :: as, h, n => by
    simp only [pureL, Bool.and_eq_true] at h
    simp only [refsL, refsA_pure a h.1 n, refsL_pure as h.2 n, Bool.and_self]
end
mutual
theorem R_refs {n : Nat} {ρ' : Rho} (hr : ∀ id, id < n → ρ' id = ρ id) : ∀ (a : AV) (xs : List Value), refsA n a = true → R ρ I w a xs → R ρ' I w a xs
  | .any, _, _, h => h
  | .raw _, _, _, h => h
  | .int _ _, _, _, h => h
  | .u8 _, _, _, h => h
  | .u32 _, _, _, h => h
  | .u64 _, _, _, h => h
  | .bool _, _, _, h => h
  | .str _, _, _, h => h
  | .b8 _ _, _, _, h => h
  | .w32 _ _, _, _, h => h
  | .w64 _ _, _, _, h => h
  | .n64 _ _, _, _, h => h
  | .vec8 _ _, _, _, h => h
  | .ptr id _, _, hn, ⟨v, h0, b, h1, h2⟩ => ⟨v, h0, b, by rw [hr id (by simp [refsA] at hn; omega)]; exact h1, h2⟩
  | .pix id _ _ _, _, hn, ⟨v, h0, b, h1, h2⟩ => ⟨v, h0, b, by rw [hr id (by simp [refsA] at hn; omega)]; exact h1, h2⟩
  | .sl id _ _ _, _, hn, ⟨v, h0, h1⟩ => by
    refine ⟨v, h0, ?_⟩
    unfold slR
    rw [hr id (by simp [refsA] at hn; omega)]
    exact h1
  | .slv id _ _ f, _, hn, ⟨v, h0, h1, ⟨vs, hl, h2, h3⟩, h4⟩ => by
    refine ⟨v, h0, h1, ⟨vs, hl, fun i hi => RL_refs hr (f i) _ (refsL_pure (f i) (okL_pure (h1 i hi)) n) (h2 i hi), h3⟩, ?_⟩
    unfold slR
    rw [hr id (by simp [refsA] at hn; omega)]
    exact h4
  | .vec _ _ rows, _, hn, ⟨v, h0, h1, vs, h2, h3⟩ => ⟨v, h0, h1, vs, RL_refs hr rows vs hn h2, h3⟩
  | .vecr _ _ _ f, _, hn, ⟨v, h0, h1, vs, hl, h2, h3⟩ => ⟨v, h0, h1, vs, hl, fun i hi => RL_refs hr (f i) _ (refsL_pure (f i) (okL_pure (h1 i hi)) n) (h2 i hi), h3⟩
  | .vp cells _, _, hn, ⟨v, h0, vs, h2, h3⟩ => ⟨v, h0, vs, RL_refs hr cells vs hn h2, h3⟩
  | .vpx cells _ _ _, _, hn, ⟨v, h0, h1, vs, h2, h3⟩ => ⟨v, h0, h1, vs, RL_refs hr cells vs hn h2, h3⟩
  | .fn _ first caps, _, hn, ⟨v, h0, x, y, h1, h2, h3⟩ => by
    simp only [refsA, Bool.and_eq_true] at hn
    exact ⟨v, h0, x, y, h1, RV_refs hr first _ hn.1 h2, RV_refs hr caps _ hn.2 h3⟩
  | .agg l, _, hn, h => RL_refs hr l _ hn h
  | .tup l, _, hn, ⟨v, h0, cs, h1, h2⟩ => ⟨v, h0, cs, h1, RV_refs hr l _ hn h2⟩
theorem RL_refs {n : Nat} {ρ' : Rho} (hr : ∀ id, id < n → ρ' id = ρ id) : ∀ (l : List AV) (xs : List Value), refsL n l = true → RL ρ I w l xs → RL ρ' I w l xs
  | [], _, _, h => h
  | a :: as, _, hn, ⟨ys, zs, h0, h1, h2⟩ => by
    simp only [refsL, Bool.and_eq_true] at hn
    exact ⟨ys, zs, h0, R_refs hr a ys hn.1 h1, RL_refs hr as zs hn.2 h2⟩
theorem RV_refs {n : Nat} {ρ' : Rho} (hr : ∀ id, id < n → ρ' id = ρ id) : ∀ (l : List AV) (vs : List Value), refsL n l = true → RV ρ I w l vs → RV ρ' I w l vs
  | [], _, _, h => h
  | a :: as, _, hn, ⟨x, xs, h0, h1, h2⟩ => by
    simp only [refsL, Bool.and_eq_true] at hn
    exact ⟨x, xs, h0, h1.imp (fun ys h => R_refs hr a ys hn.1 h), RV_refs hr as xs hn.2 h2⟩
end
theorem rel_refs {n : Nat} {ρ' : Rho} (hr : ∀ id, id < n → ρ' id = ρ id) {a : AV} {v : Value} (hn : refsA n a = true) (h : rel ρ I w a v) : rel ρ' I w a v := valOf.imp (fun xs h => R_refs hr a xs hn h) h

theorem valOf_ren {σ : Nat → Nat} {a : AV} {v : Value} {Ra Ra' : List Value → Prop} (h : ∀ xs, Ra xs ↔ Ra' xs) : valOf a v Ra ↔ valOf (renA σ a) v Ra' := by
  cases a <;> simp only [renA, valOf, h]

mutual
theorem R_ren {σ : Nat → Nat} : ∀ (a : AV) (xs : List Value), R (fun i => ρ (σ i)) I w a xs ↔ R ρ I w (renA σ a) xs
  | .vec _ _ rows, _ => by simp only [renA, R, RL_ren rows, even_renL, len_renL]
  | .vp cells _, _ => by simp only [renA, R, RL_ren cells]
  | .vpx cells _ _ _, _ => by simp only [renA, R, RL_ren cells]
  | .fn _ first caps, _ => by simp only [renA, R, RV_ren first, RV_ren caps]
  | .agg l, _ => by simp only [renA, R, RL_ren l]
  | .tup l, _ => by simp only [renA, R, RV_ren l]
  | .vecr _ _ n f, _ => by
    simp only [renA, R]
    have h0 : ∀ (ρ1 ρ2 : Rho) (i : Nat) (xs : List Value), pureL (f i) = true → RL ρ1 I w (f i) xs → RL ρ2 I w (f i) xs := fun ρ1 ρ2 i xs hp h => RL_refs (n := 0) (fun _ h => by omega) (f i) xs (refsL_pure (f i) hp 0) h
    constructor
    · rintro ⟨v, e, h1, vs, hl, h2, h3⟩
      exact ⟨v, e, h1, vs, hl, fun i hi => h0 _ _ i _ (okL_pure (h1 i hi)) (h2 i hi), h3⟩
    · rintro ⟨v, e, h1, vs, hl, h2, h3⟩
      exact ⟨v, e, h1, vs, hl, fun i hi => h0 _ _ i _ (okL_pure (h1 i hi)) (h2 i hi), h3⟩
  | .slv _ _ n f, _ => by
    simp only [renA, R]
    have h0 : ∀ (ρ1 ρ2 : Rho) (i : Nat) (xs : List Value), pureL (f i) = true → RL ρ1 I w (f i) xs → RL ρ2 I w (f i) xs := fun ρ1 ρ2 i xs hp h => RL_refs (n := 0) (fun _ h => by omega) (f i) xs (refsL_pure (f i) hp 0) h
    constructor
    · rintro ⟨v, e, h1, ⟨vs, hl, h2, h3⟩, h4⟩
      exact ⟨v, e, h1, ⟨vs, hl, fun i hi => h0 _ _ i _ (okL_pure (h1 i hi)) (h2 i hi), h3⟩, h4⟩
    · rintro ⟨v, e, h1, ⟨vs, hl, h2, h3⟩, h4⟩
      exact ⟨v, e, h1, ⟨vs, hl, fun i hi => h0 _ _ i _ (okL_pure (h1 i hi)) (h2 i hi), h3⟩, h4⟩
  | .ptr _ _, _ | .pix _ _ _ _, _ | .sl _ _ _ _, _ | .any, _ | .raw _, _ | .int _ _, _ | .u8 _, _ | .u32 _, _ | .u64 _, _ | .bool _, _ | .str _, _ | .b8 _ _, _ | .w32 _ _, _ | .w64 _ _, _ | .n64 _ _, _ | .vec8 _ _, _ => by simp only [renA, R, slR]
theorem RL_ren {σ : Nat → Nat} : ∀ (l : List AV) (xs : List Value), RL (fun i => ρ (σ i)) I w l xs ↔ RL ρ I w (renL σ l) xs
  | [], _ => by simp only [renL, RL]
  | a :: as, _ => by simp only [renL, RL, R_ren a, RL_ren as]
theorem RV_ren {σ : Nat → Nat} : ∀ (l : List AV) (vs : List Value), RV (fun i => ρ (σ i)) I w l vs ↔ RV ρ I w (renL σ l) vs
  | [], _ => by simp only [renL, RV]
  | a :: as, _ => by
    simp only [renL, RV]
    constructor
    · rintro ⟨x, xs, h0, h1, h2⟩
      exact ⟨x, xs, h0, (valOf_ren (R_ren a)).1 h1, (RV_ren as _).1 h2⟩
    · rintro ⟨x, xs, h0, h1, h2⟩
      exact ⟨x, xs, h0, (valOf_ren (R_ren a)).2 h1, (RV_ren as _).2 h2⟩
end
theorem rel_ren {σ : Nat → Nat} {a : AV} {v : Value} : rel (fun i => ρ (σ i)) I w a v ↔ rel ρ I w (renA σ a) v := valOf_ren (R_ren a)

theorem rel_pure {ρ' : Rho} {a : AV} {v : Value} (hp : pureA a = true) (h : rel ρ I w a v) : rel ρ' I w a v :=
  rel_refs (n := 0) (fun _ h => by omega) (refsA_pure a hp 0) h
theorem RV_pure {ρ' : Rho} {l : List AV} {vs : List Value} (hp : pureL l = true) (h : RV ρ I w l vs) : RV ρ' I w l vs :=
  RV_refs (n := 0) (fun _ h => by omega) l vs (refsL_pure l hp 0) h
end maps

/-- The temporaries of a frame. -/
structure RelT (ρ : Rho) (I : Imm) (w : World) (t : List AV) (a : Act) : Prop where
  tr : RV ρ I w t a.tmps.toList
  defers : a.defers = []

theorem RelT.mono {ρ : Rho} {I : Imm} {w : World} {ρ' : Rho} {I' : Imm} {w' : World} (m : Mono ρ I w ρ' I' w') {t : List AV} {a : Act} (h : RelT ρ I w t a) : RelT ρ' I' w' t a :=
  ⟨RV_mono m _ _ h.tr, h.defers⟩

structure St where
  t : List AV
  H : Heap

end Go.V

/- The abstract layer (second state), part B: types, operations that only compute or read: their abstract values. -/
set_option linter.unusedSimpArgs false
set_option linter.unusedVariables false
namespace Go.V
open Go

/-- What kind of type this is, as far as the operations ask. -/
inductive TK where
  | arr (n elem : Nat)
  | str (fields : List (Nat × Nat))      -- offset, type
  | slice (elem : Nat)
  | ptr (elem : Nat)
  | int (k : IntKind)
  | bool
  | string
  | other
  deriving Inhabited, DecidableEq

def TK.isAgg : TK → Bool
  | .arr _ _ => true
  | .str _ => true
  | _ => false

def TK.of : TypeDesc → TK
  | .array n e => .arr n e
  | .struct fs => .str (fs.toList.map fun f => (f.offset, f.type))
  | .slice e => .slice e
  | .pointer e => .ptr e
  | .int k => .int k
  | .bool => .bool
  | .string => .string
  | _ => .other

/-- size in cells, size in bytes, kind, the zero value; can it be compared without a look into interfaces; field by field -/
structure TI where
  size : Nat
  bytes : Nat
  kind : TK
  zero : Option AV
  eqf : Bool
  sok : Bool
  deriving Inhabited

def eat8 : List UInt8 → List Value → Option (List Value)
  | [], xs => some xs
  | x :: l, .int .u8 n :: xs => if n = x.toNat then eat8 l xs else none
  | _, _ => none
def eat32 : List UInt32 → List Value → Option (List Value)
  | [], xs => some xs
  | x :: l, .int .u32 n :: xs => if n = x.toNat then eat32 l xs else none
  | _, _ => none
def eat64 : List UInt64 → List Value → Option (List Value)
  | [], xs => some xs
  | x :: l, .int .u64 n :: xs => if n = x.toNat then eat64 l xs else none
  | _, _ => none

mutual
/-- Is a value just this one? -/
def eat : AV → List Value → Option (List Value)
  | .int k n, xs => match xs with
    | .int k' n' :: xs => if k' = k ∧ n' = n then some xs else none
    | _ => none
  | .u8 x, xs => eat8 [x] xs
  | .u32 x, xs => eat32 [x] xs
  | .u64 x, xs => eat64 [x] xs
  | .bool b, xs => match xs with
    | .bool b' :: xs => if b' = b then some xs else none
    | _ => none
  | .str s, xs => match xs with
    | .string t :: xs => if t.data.toList = s then some xs else none
    | _ => none
  | .b8 n l, xs => if l.length = n then eat8 l xs else none
  | .w32 n l, xs => if l.length = n then eat32 l xs else none
  | .w64 n l, xs => if l.length = n then eat64 l xs else none
  | .vec8 _ l, xs => match l, xs with
    | [], .slice none 0 0 :: xs => some xs
    | _, _ => none
  | .vec _ _ l, xs => match l, xs with
    | [], .slice none 0 0 :: xs => some xs
    | _, _ => none
  | .raw v, xs => match v, xs with
    | .pointer none, .pointer none :: xs => some xs
    | .nilFunc, .nilFunc :: xs => some xs
    | .nilIface, .nilIface :: xs => some xs
    | .map none, .map none :: xs => some xs
    | _, _ => none
  | .agg l, xs => eatL l xs
  | _, _ => none
def eatL : List AV → List Value → Option (List Value)
  | [], xs => some xs
  | a :: as, xs => match eat a xs with
    | some ys => eatL as ys
    | none => none
end
def isNil : Option (List Value) → Bool
  | some [] => true
  | _ => false
def chkV (z : AV) (v : Value) : Bool :=
  if isAg z then (match v with | .agg cs => isNil (eat z cs.toList) | _ => false) else isNil (eat z [v])

/-- A struct type that can be compared field by field. -/
def strOk (P : Program) (t : Nat) : Bool := (P.fieldsOf t).all (fun f => f.name != "_") && !P.stoodInHeld t

def tiOkB (P : Program) (t : Nat) (i : TI) : Bool :=
  match P.info? t, P.underlying t with
  | some j, some d => j.size == i.size && (j.bytes == i.bytes && (decide (i.kind = TK.of d) && ((match i.zero with
      | none => true
      | some z => match j.zero with
        | some v => chkV z v
        | none => false) && ((!i.eqf || !P.eqGuardType P.depth t) && (!i.sok || strOk P t)))))
  | _, _ => false

theorem tiOk {P : Program} {t : Nat} {i : TI} (h : tiOkB P t i = true) :
    ∃ j d, P.info? t = some j ∧ P.underlying t = some d ∧ i.size = j.size ∧ i.bytes = j.bytes ∧ i.kind = TK.of d ∧ (∀ z, i.zero = some z → ∃ v, j.zero = some v ∧ chkV z v = true) ∧
      (i.eqf = true → P.eqGuardType P.depth t = false) ∧ (i.sok = true → strOk P t = true) := by
  unfold tiOkB at h
  split at h
  · rename_i j d h1 h2
    simp only [Bool.and_eq_true, beq_iff_eq, decide_eq_true_eq, Bool.or_eq_true, Bool.not_eq_true'] at h
    obtain ⟨a, b, c, e, f, g⟩ := h
    refine ⟨j, d, h1, h2, a.symm, b.symm, c, fun z hz => ?_, fun hq => by simpa [hq] using f, fun hq => by simpa [hq] using g⟩
    rw [hz] at e
    simp only at e
    split at e
    · rename_i v hv; exact ⟨v, hv, e⟩
    · simp at e
  · simp at h

/-- The model's own entry for a function without a body. -/
def IsExt (P : Program) (f : FuncId) (e : Array Value → Sem Value) : Prop :=
  ∀ (args : Array Value) (w : World), (callFunc f args).run P w = ((e args).run P w).andThen fun v w' => .ok (.value v) w'

def sub64Entry : Array Value → Sem Value := fun args => do
  let (x, y, b) ← Extern.MathBitsCarry.three "Sub64" args
  pure (Extern.MathBitsCarry.pair ((x + Extern.MathBitsCarry.m64 - y - b) % Extern.MathBitsCarry.m64) (if x < y + b then 1 else 0))

/-- A function of the program, with a body. -/
def GoFn (P : Program) (f : FuncId) : Prop :=
  match P.funcs[f]? with
  | some fn => (fn.name == "runtime.NumGoroutine") = false ∧ fn.body.isSome = true
  | none => False
def goFnB (P : Program) (f : FuncId) : Bool :=
  match P.funcs[f]? with
  | some fn => !(fn.name == "runtime.NumGoroutine") && fn.body.isSome
  | none => false

/-- What is known of the program: its types, what the package-level variables hold, the kinds of functions. -/
structure Env (P : Program) where
  ty : Nat → Option TI
  g : Nat → Option (List AV)
  x : Nat → FK
  go : Nat → Bool
  tyOk : ∀ t i, ty t = some i → tiOkB P t i = true
  addOk : ∀ f, x f = .add64 → IsExt P f add64Entry
  subOk : ∀ f, x f = .sub64 → IsExt P f sub64Entry
  goOk : ∀ f, go f = true → GoFn P f
  follows : P.follows .mixedOrders = true

theorem goFn_of {P : Program} {f : FuncId} (h : goFnB P f = true) : GoFn P f := by
  unfold goFnB at h
  unfold GoFn
  split at h
  · rename_i fn hf
    simp only [Bool.and_eq_true, Bool.not_eq_true'] at h
    exact h
  · simp at h

/-- Rows of types as a list. -/
theorem tyOk_of {P : Program} {l : List (Option TI)} (h : ((List.range l.length).all fun t => match l[t]? with | some (some i) => tiOkB P t i | _ => true) = true) :
    ∀ t i, (l[t]?).join = some i → tiOkB P t i = true := by
  intro t i ht
  have hi : l[t]? = some (some i) := by
    cases hl : l[t]? with
    | none => rw [hl] at ht; simp at ht
    | some x => rw [hl] at ht; simp at ht; rw [ht]
  have hlt : t < l.length := (List.getElem?_eq_some_iff.1 hi).1
  have := List.all_eq_true.1 h t (List.mem_range.2 hlt)
  rw [hi] at this
  exact this

/-- A function that nothing looks into by computation. -/
noncomputable def sealed {α : Type} (f : α) : {g : α // g = f} := Classical.choice ⟨⟨f, rfl⟩⟩
def stuckC : Prop := (sealed False).val
theorem stuckC_eq : stuckC = False := by rw [stuckC, (sealed False).property]
/-- A condition that stands ahead of what follows. -/
def cnd (b : Bool) (p : Prop) : Prop := match b with
  | true => p
  | false => stuckC
theorem cnd_true {p : Prop} : cnd true p = p := rfl
theorem cnd_iff {b : Bool} {p : Prop} : cnd b p ↔ b = true ∧ p := by cases b <;> simp [cnd, stuckC_eq]
theorem cnd_mk {b : Bool} {p : Prop} (h : b = true) (k : p) : cnd b p := cnd_iff.2 ⟨h, k⟩

/-- Either way for itself. -/
def ite2 (b : Bool) (x y : Prop) : Prop := match b with
  | true => x
  | false => y
theorem ite2_iff {b : Bool} {x y : Prop} : ite2 b x y ↔ (b = true → x) ∧ (b = false → y) := by cases b <;> simp [ite2]
def ifW (b want : Bool) (x y : Prop) : Prop := match want with
  | true => ite2 b x y
  | false => ite2 b y x
theorem ifW_iff {b want : Bool} {x y : Prop} : ifW b want x y ↔ (b = want → x) ∧ (b = !want → y) := by cases b <;> cases want <;> simp [ifW, ite2]

/-- Is a number below another one? -/
def ltB (a b : Nat) : Bool := Nat.ble (a + 1) b
def leB (a b : Nat) : Bool := Nat.ble a b
def inB (n : Int) (len : Nat) : Bool := ((n.toNat : Int) == n) && ltB n.toNat len
theorem ble_iff {a b : Nat} : Nat.ble a b = true ↔ a ≤ b := ⟨Nat.le_of_ble_eq_true, Nat.ble_eq_true_of_le⟩
theorem ltB_iff {a b : Nat} : ltB a b = true ↔ a < b := ble_iff
theorem leB_iff {a b : Nat} : leB a b = true ↔ a ≤ b := ble_iff
theorem inB_iff {n : Int} {len : Nat} : inB n len = true ↔ 0 ≤ n ∧ n < len := by
  simp only [inB, Bool.and_eq_true, beq_iff_eq, ltB_iff]; omega
theorem ltB_of {a b : Nat} (h : a < b) : ltB a b = true := ltB_iff.2 h
theorem leB_of {a b : Nat} (h : a ≤ b) : leB a b = true := leB_iff.2 h
theorem inB_of {n : Int} {len : Nat} (h : 0 ≤ n) (h' : n < len) : inB n len = true := inB_iff.2 ⟨h, h'⟩

/-- An integer's value, whatever its kind. -/
def AV.toI : AV → Option (IntKind × Int)
  | .int k n => some (k, n)
  | .u8 x => some (.u8, x.toNat)
  | .u32 x => some (.u32, x.toNat)
  | .u64 x => some (.u64, x.toNat)
  | _ => none

theorem rel_toI {ρ : Rho} {I : Imm} {w : World} {a : AV} {v : Value} {k : IntKind} {n : Int} (h : a.toI = some (k, n)) (r : rel ρ I w a v) : v = .int k n := by
  cases a <;> simp only [AV.toI, Option.some.injEq, Prod.mk.injEq, reduceCtorEq] at h
  case int => rw [rel_int] at r; obtain ⟨rfl, rfl⟩ := h; exact r
  case u8 => rw [rel_u8] at r; obtain ⟨rfl, rfl⟩ := h; exact r
  case u32 => rw [rel_u32] at r; obtain ⟨rfl, rfl⟩ := h; exact r
  case u64 => rw [rel_u64] at r; obtain ⟨rfl, rfl⟩ := h; exact r

def shl8 (a : UInt8) (n : Nat) : UInt8 := UInt8.ofNat (a.toNat * 2 ^ n)
def shl32 (a : UInt32) (n : Nat) : UInt32 := UInt32.ofNat (a.toNat * 2 ^ n)
def shl64 (a : UInt64) (n : Nat) : UInt64 := UInt64.ofNat (a.toNat * 2 ^ n)
def shr8 (a : UInt8) (n : Nat) : UInt8 := UInt8.ofNat (a.toNat / 2 ^ n)
def shr32 (a : UInt32) (n : Nat) : UInt32 := UInt32.ofNat (a.toNat / 2 ^ n)
def shr64 (a : UInt64) (n : Nat) : UInt64 := UInt64.ofNat (a.toNat / 2 ^ n)

def fits (n : Nat) : Bool := Nat.ble n 9223372036854775807
theorem fits_le {n : Nat} (h : fits n = true) : n ≤ 9223372036854775807 := ble_iff.1 h
theorem wr64_of {z : Int} (h : -9223372036854775808 ≤ z) (h2 : z ≤ 9223372036854775807) : IntKind.i64.wrap z = z := by
  rw [IntKind.wrap_i64]; omega
def wrN (n : Nat) : Int := match fits n with
  | true => .ofNat n
  | false => IntKind.i64.wrap (.ofNat n)
def wrM (n : Nat) : Int := match fits n with
  | true => .negSucc n
  | false => IntKind.i64.wrap (.negSucc n)
theorem wrN_eq (n : Nat) : wrN n = IntKind.i64.wrap (.ofNat n) := by
  unfold wrN
  split
  · rename_i h
    have := fits_le h
    have e : Int.ofNat n = (n : Int) := rfl
    rw [e, wr64_of (by omega) (by omega)]
  · rfl
theorem wrM_eq (n : Nat) : wrM n = IntKind.i64.wrap (.negSucc n) := by
  unfold wrM
  split
  · rename_i h
    have := fits_le h
    rw [wr64_of (by omega) (by omega)]
  · rfl
/-- A number brought into its kind's bounds; as it is where it is seen to be within them. -/
def wr (k : IntKind) (z : Int) : Int :=
  match k with
  | .i64 => match z with
    | .ofNat n => wrN n
    | .negSucc n => wrM n
  | k => k.wrap z
theorem wr_eq (k : IntKind) (z : Int) : wr k z = k.wrap z := by
  cases k
  case i64 =>
    cases z with
    | ofNat n => exact wrN_eq n
    | negSucc n => exact wrM_eq n
  all_goals rfl
/-- Is an integer below another one? -/
def ltI (x y : Int) : Bool :=
  match x with
  | .ofNat a => match y with
    | .ofNat b => Nat.ble (a + 1) b
    | .negSucc _ => false
  | .negSucc a => match y with
    | .ofNat _ => true
    | .negSucc b => Nat.ble (b + 1) a
theorem ltI_iff (x y : Int) : ltI x y = true ↔ x < y := by
  cases x <;> cases y <;> rename_i a b
  · have e1 : Int.ofNat a = (a : Int) := rfl
    have e2 : Int.ofNat b = (b : Int) := rfl
    show Nat.ble (a + 1) b = true ↔ _
    rw [ble_iff, e1, e2]; omega
  · have e1 : Int.ofNat a = (a : Int) := rfl
    rw [e1]
    exact ⟨fun h => by simp [ltI] at h, fun h => by omega⟩
  · have e2 : Int.ofNat b = (b : Int) := rfl
    rw [e2]
    exact ⟨fun _ => by omega, fun _ => rfl⟩
  · show Nat.ble (b + 1) a = true ↔ _
    rw [ble_iff]; omega
theorem ltI_eq (x y : Int) : ltI x y = decide (x < y) := by
  by_cases h : x < y
  · rw [decide_eq_true h]; exact (ltI_iff x y).2 h
  · rw [decide_eq_false h]
    exact Bool.eq_false_iff.2 fun hl => h ((ltI_iff x y).1 hl)
def subN (a b : Nat) : Int := match Nat.ble b a with
  | true => .ofNat (a - b)
  | false => .negSucc (b - a - 1)
theorem subN_eq (a b : Nat) : subN a b = (a : Int) - b := by
  unfold subN
  split
  · rename_i h
    have := ble_iff.1 h
    show ((a - b : Nat) : Int) = _
    omega
  · rename_i h
    have : ¬ b ≤ a := fun e => by rw [ble_iff.2 e] at h; exact Bool.noConfusion h
    rw [Int.negSucc_eq]; omega
/-- A difference, that is not reckoned in ones. -/
def subI (x y : Int) : Int := match x with
  | .ofNat a => match y with
    | .ofNat b => subN a b
    | .negSucc b => .ofNat (a + b + 1)
  | .negSucc a => match y with
    | .ofNat b => .negSucc (a + b)
    | .negSucc b => subN b a
theorem subI_eq (x y : Int) : subI x y = x - y := by
  cases x <;> cases y <;> rename_i a b <;> simp only [subI, subN_eq, Int.negSucc_eq, Int.ofNat_eq_natCast] <;> omega
theorem notLt (x y : Int) : (!decide (y < x)) = decide (x ≤ y) := by
  by_cases h : x ≤ y
  · rw [decide_eq_true h, decide_eq_false (by omega)]; rfl
  · rw [decide_eq_false h, decide_eq_true (by omega)]; rfl

def cvt (k : IntKind) (a : AV) : Option AV :=
  match k, a with
  | .u8, .u8 x => some (.u8 x)
  | .u8, .u32 x => some (.u8 x.toUInt8)
  | .u8, .u64 x => some (.u8 x.toUInt8)
  | .u8, .int _ n => some (.u8 (UInt8.ofNat (n % 256).toNat))
  | .u32, .u8 x => some (.u32 x.toUInt32)
  | .u32, .u32 x => some (.u32 x)
  | .u32, .u64 x => some (.u32 x.toUInt32)
  | .u32, .int _ n => some (.u32 (UInt32.ofNat (n % 4294967296).toNat))
  | .u64, .u8 x => some (.u64 x.toUInt64)
  | .u64, .u32 x => some (.u64 x.toUInt64)
  | .u64, .u64 x => some (.u64 x)
  | .u64, .int _ n => some (.u64 (UInt64.ofNat (n % 18446744073709551616).toNat))
  | .i64, .u8 x => some (.int .i64 x.toNat)
  | .i64, .u32 x => some (.int .i64 x.toNat)
  | k, a => match a.toI with
    | some (_, n) => some (.int k (wr k n))
    | none => none

def eqK (k k' : IntKind) : Bool := decide (k = k')

/-- Arithmetic on two values of one kind. -/
def aArith (op : BinOp) (a b : AV) : Option (Bool × AV) :=
  match op, a, b with
  | .add, .u8 x, .u8 y => some (true, .u8 (x + y))
  | .sub, .u8 x, .u8 y => some (true, .u8 (x - y))
  | .mul, .u8 x, .u8 y => some (true, .u8 (x * y))
  | .and, .u8 x, .u8 y => some (true, .u8 (x &&& y))
  | .or, .u8 x, .u8 y => some (true, .u8 (x ||| y))
  | .xor, .u8 x, .u8 y => some (true, .u8 (x ^^^ y))
  | .andNot, .u8 x, .u8 y => some (true, .u8 (x &&& ~~~y))
  | .quo, .u8 x, .u8 y => some (y != 0, .u8 (x / y))
  | .rem, .u8 x, .u8 y => some (y != 0, .u8 (x % y))
  | .add, .u32 x, .u32 y => some (true, .u32 (x + y))
  | .sub, .u32 x, .u32 y => some (true, .u32 (x - y))
  | .mul, .u32 x, .u32 y => some (true, .u32 (x * y))
  | .and, .u32 x, .u32 y => some (true, .u32 (x &&& y))
  | .or, .u32 x, .u32 y => some (true, .u32 (x ||| y))
  | .xor, .u32 x, .u32 y => some (true, .u32 (x ^^^ y))
  | .andNot, .u32 x, .u32 y => some (true, .u32 (x &&& ~~~y))
  | .add, .u64 x, .u64 y => some (true, .u64 (x + y))
  | .sub, .u64 x, .u64 y => some (true, .u64 (x - y))
  | .mul, .u64 x, .u64 y => some (true, .u64 (x * y))
  | .and, .u64 x, .u64 y => some (true, .u64 (x &&& y))
  | .or, .u64 x, .u64 y => some (true, .u64 (x ||| y))
  | .xor, .u64 x, .u64 y => some (true, .u64 (x ^^^ y))
  | .andNot, .u64 x, .u64 y => some (true, .u64 (x &&& ~~~y))
  | .add, .int k x, .int k' y => some (eqK k' k, .int k (wr k (x + y)))
  | .sub, .int k x, .int k' y => some (eqK k' k, .int k (wr k (subI x y)))
  | .mul, .int k x, .int k' y => some (eqK k' k, .int k (wr k (x * y)))
  | .quo, .int k x, .int k' y => some (eqK k' k && y != 0, .int k (wr k (x.tdiv y)))
  | .rem, .int k x, .int k' y => some (eqK k' k && y != 0, .int k (x.tmod y))
  | .and, .int k x, .int k' y => some (eqK k' k, .int k (bits .and k x y))
  | .or, .int k x, .int k' y => some (eqK k' k, .int k (bits .or k x y))
  | .xor, .int k x, .int k' y => some (eqK k' k, .int k (bits .xor k x y))
  | .andNot, .int k x, .int k' y => some (eqK k' k, .int k (bits .andNot k x y))
  | _, _, _ => none

def nnB (n : Int) : Bool := (n.toNat : Int) == n
theorem nnB_iff {n : Int} : nnB n = true ↔ 0 ≤ n := by simp only [nnB, beq_iff_eq]; omega

def aShift (op : BinOp) (a b : AV) : Option (Bool × AV) :=
  match b.toI with
  | none => none
  | some (_, n) =>
    match op, a with
    | .shl, .u8 x => some (nnB n, .u8 (shl8 x n.toNat))
    | .shl, .u32 x => some (nnB n, .u32 (shl32 x n.toNat))
    | .shl, .u64 x => some (nnB n, .u64 (shl64 x n.toNat))
    | .shr, .u8 x => some (nnB n, .u8 (shr8 x n.toNat))
    | .shr, .u32 x => some (nnB n, .u32 (shr32 x n.toNat))
    | .shr, .u64 x => some (nnB n, .u64 (shr64 x n.toNat))
    | .shl, .int .i64 x => some (nnB n, .int .i64 (wr .i64 (x * 2 ^ min n.toNat 64)))
    | .shr, .int .i64 x => some (nnB n, .int .i64 (x.fdiv (2 ^ min n.toNat 64)))
    | _, _ => none

/-- Comparisons of integers. -/
def cmpI (op : BinOp) (x y : Int) : Option Bool :=
  match op with
  | .eql => some (x == y)
  | .neq => some (x != y)
  | .lss => some (ltI x y)
  | .leq => some (!ltI y x)
  | .gtr => some (ltI y x)
  | .geq => some (!ltI x y)
  | _ => none

def aCmp (op : BinOp) (a b : AV) : Option (Bool × AV) :=
  match a.toI, b.toI with
  | some (k, x), some (k', y) => match cmpI op x y with
    | some r => some (eqK k' k, .bool r)
    | none => none
  | _, _ => none

/-- A row of cells as one value. -/
def mkAg : List AV → AV
  | [.b8 n l] => .b8 n l
  | [.w32 n l] => .w32 n l
  | [.w64 n l] => .w64 n l
  | [.n64 n l] => .n64 n l
  | [.agg l] => .agg l
  | l => .agg l

def AV.cells : AV → List AV
  | .agg l => l
  | v => [v]

mutual
/-- The cells from one on. -/
def splitA : AV → Nat → List AV
  | .b8 m l, n => [.b8 (m - n) (l.drop n)]
  | .w32 m l, n => [.w32 (m - n) (l.drop n)]
  | .w64 m l, n => [.w64 (m - n) (l.drop n)]
  | .n64 m l, n => [.n64 (m - n) (l.drop n)]
  | .agg l, n => dropL l n
  | _, _ => []
def dropL : List AV → Nat → List AV
  | [], _ => []
  | a :: as, n => bif n == 0 then a :: as else bif leB (szA a) n then dropL as (n - szA a) else splitA a n ++ as
end
mutual
/-- The first cells. -/
def firstA : AV → Nat → List AV
  | .b8 _ l, n => [.b8 n (l.take n)]
  | .w32 _ l, n => [.w32 n (l.take n)]
  | .w64 _ l, n => [.w64 n (l.take n)]
  | .n64 _ l, n => [.n64 n (l.take n)]
  | .agg l, n => takeL l n
  | _, _ => []
def takeL : List AV → Nat → List AV
  | [], _ => []
  | a :: as, n => bif n == 0 then [] else bif leB (szA a) n then a :: takeL as (n - szA a) else firstA a n
end
mutual
/-- The first cell. -/
def headA : AV → Option AV
  | .b8 m l => bif m == 0 then none else some (.u8 (l.getD 0 0))
  | .w32 m l => bif m == 0 then none else some (.u32 (l.getD 0 0))
  | .w64 m l => bif m == 0 then none else some (.u64 (l.getD 0 0))
  | .n64 m l => bif m == 0 then none else some (.int .i64 (l.getD 0 0))
  | .agg l => headL l
  | a => some a
def headL : List AV → Option AV
  | [] => none
  | a :: _ => headA a
end

/-- A number out of a row, at a place that may be a variable; else the cell there. -/
def cellX (c : List AV) (off n : Nat) (i : Int) : Option AV :=
  match dropL c off with
  | .b8 m l :: _ => bif leB n m then some (.u8 (l.getD i.toNat 0)) else none
  | .w32 m l :: _ => bif leB n m then some (.u32 (l.getD i.toNat 0)) else none
  | .w64 m l :: _ => bif leB n m then some (.u64 (l.getD i.toNat 0)) else none
  | .n64 m l :: _ => bif leB n m then some (.int .i64 (l.getD i.toNat 0)) else none
  | _ => headL (dropL c (off + i.toNat))

/-- A place behind a place. -/
def ofs (off : Nat) (i : Int) : Nat := bif off == 0 then i.toNat else off + i.toNat
theorem ofs_eq (off : Nat) (i : Int) : ofs off i = off + i.toNat := by
  unfold ofs
  cases h : off == 0
  · rfl
  · have : off = 0 := by simpa using h
    simp [this]
/-- The same, where the row is one of numbers alone. -/
def cellX1 (c : List AV) (off n : Nat) (i : Int) : Option (Bool × AV) :=
  match c with
  | [.b8 m l] => some (leB (off + n) m, .u8 (l.getD (ofs off i) 0))
  | [.w32 m l] => some (leB (off + n) m, .u32 (l.getD (ofs off i) 0))
  | [.w64 m l] => some (leB (off + n) m, .u64 (l.getD (ofs off i) 0))
  | [.n64 m l] => some (leB (off + n) m, .int .i64 (l.getD (ofs off i) 0))
  | c => match cellX c off n i with
    | some v => some (true, v)
    | none => none

def entCells (H : Heap) (id : Nat) : Option (List AV) :=
  match H[id]? with
  | some (.blk c _) => some c
  | some (.grow8 l _) => some [.b8 l.length l]
  | some (.grow _ rows _) => some rows
  | _ => none

/-- The cells that an address points into, and where. -/
def cellsAt (H : Heap) : AV → Option (List AV × Nat)
  | .ptr id off => match entCells H id with
    | some c => some (c, off)
    | none => none
  | .vp c i => some (c, i)
  | _ => none
/-- An address at a place that may be a variable. -/
def cellsAtX (H : Heap) : AV → Option (List AV × Nat × Nat × Int)
  | .pix id off n i => match entCells H id with
    | some c => some (c, off, n, i)
    | none => none
  | .vpx c off n i => some (c, off, n, i)
  | _ => none

def addrAdd (n : Nat) : AV → Option AV
  | .ptr id off => some (.ptr id (off + n))
  | .vp c i => some (.vp c (i + n))
  | _ => none

/-- A part of a row of cells. -/
def cut1 (ti : TI) (c : List AV) (off : Nat) : Option (Bool × AV) :=
  bif ti.kind.isAgg then some (leB (off + ti.size) (szL c), mkAg (takeL (dropL c off) ti.size))
  else match headL (dropL c off) with
    | some a => some (true, a)
    | none => none

def pickA (b : Bool) (x y : AV) : AV :=
  match x, y with
  | .bool p, .bool q => .bool (cond b p q)
  | x, y => cond b x y

section
variable {P : Program} (G : Env P)

def aload (ti : TI) (H : Heap) (a : AV) : Option (Bool × AV) :=
  match cellsAt H a with
  | some (c, off) => cut1 ti c off
  | none => match cellsAtX H a with
    | some (c, off, n, i) => bif ti.kind.isAgg then none else cellX1 c off n i
    | none => none

/-- The address of an element of a row: as a number, or at a place that may be a variable. -/
def elemAddr (te : TI) (len : Nat) (n : Int) : AV → Option AV
  | .ptr id off => bif te.size == 1 && !te.kind.isAgg then some (.pix id off len n) else some (.ptr id (off + n.toNat * te.size))
  | .vp c off => bif te.size == 1 && !te.kind.isAgg then some (.vpx c off len n) else some (.vp c (off + n.toNat * te.size))
  | _ => none

def aIndexAddr (ti : TI) (x : AV) (n : Int) : Option (Bool × AV) :=
  match ti.kind, x with
  | .arr len e, x => match G.ty e with
    | some te => match elemAddr te len n x with
      | some v => some (inB n len, v)
      | none => none
    | none => none
  | .slice e, .sl id off k len => match G.ty e with
    | some te => match elemAddr te len n (.ptr id off) with
      | some v => some (inB n len && k == te.size, v)
      | none => none
    | none => none
  | .slice e, .vec8 _ l => match G.ty e with
    | some te => some (inB n l.length && te.size == 1, .vpx [.b8 l.length l] 0 l.length n)
    | none => none
  | .slice e, .vec _ k rows => match G.ty e with
    | some te => some (inB n rows.length && te.size == k, .vp (rows.getD n.toNat .any).cells 0)
    | none => none
  | .slice e, .vecr _ k m f => match G.ty e with
    | some te => some (inB n m && te.size == k, .vp (f n.toNat) 0)
    | none => none
  | .slice e, .slv _ k m f => match G.ty e with
    | some te => some (inB n m && te.size == k, .vp (f n.toNat) 0)
    | none => none
  | _, _ => none

def aIndex (ti : TI) (x : AV) (n : Int) : Option (Bool × AV) :=
  match ti.kind, x with
  | .arr len e, .b8 m l => match G.ty e with
    | some te => some ((inB n len && len == m) && (te.size == 1 && !te.kind.isAgg), .u8 (l.getD n.toNat 0))
    | none => none
  | .arr len e, .w32 m l => match G.ty e with
    | some te => some ((inB n len && len == m) && (te.size == 1 && !te.kind.isAgg), .u32 (l.getD n.toNat 0))
    | none => none
  | .arr len e, .w64 m l => match G.ty e with
    | some te => some ((inB n len && len == m) && (te.size == 1 && !te.kind.isAgg), .u64 (l.getD n.toNat 0))
    | none => none
  | .arr len e, .n64 m l => match G.ty e with
    | some te => bif te.kind.isAgg then some (inB n len && leB (len * te.size) m, .n64 te.size ((l.drop (n.toNat * te.size)).take te.size)) else some ((inB n len && len == m) && (te.size == 1 && !te.kind.isAgg), .int .i64 (l.getD n.toNat 0))
    | none => none
  | .arr len e, .agg l => match G.ty e with
    | some te => match cut1 te l (n.toNat * te.size) with
      | some (c, v) => some (inB n len && c, v)
      | none => none
    | none => none
  | .string, .str s => some (inB n s.length, .u8 (s.getD n.toNat 0))
  | _, _ => none

def aField (ti : TI) (x : AV) (f : Nat) : Option (Bool × AV) :=
  match ti.kind with
  | .str fs => match fs[f]? with
    | some (off, ft) => match G.ty ft with
      | some tf => bif isAg x then cut1 tf x.cells off else none
      | none => none
    | none => none
  | _ => none

def aUn (op : UnOp) (x : AV) : Option AV :=
  match op, x with
  | .not, .bool b => some (.bool !b)
  | .neg, .u64 x => some (.u64 (0 - x))
  | .neg, .int k n => some (.int k (wr k (subI 0 n)))
  | .xor, .u32 x => some (.u32 (~~~x))
  | .xor, .u64 x => some (.u64 (~~~x))
  | _, _ => none

def aBoolEq (op : BinOp) (a b : AV) : Option (Bool × AV) :=
  match op, a, b with
  | .eql, .bool x, .bool y => some (true, .bool (x == y))
  | .neq, .bool x, .bool y => some (true, .bool (x != y))
  | _, _, _ => none

def aStr (op : BinOp) (a b : AV) : Option (Bool × AV) :=
  match op, a, b with
  | .add, .str x, .str y => some (ltB (x.length + y.length) 9223372036854775808, .str (x ++ y))
  | .eql, .str x, .str y => some (true, .bool (x == y))
  | .neq, .str x, .str y => some (true, .bool (x != y))
  | .lss, .str x, .str y => some (true, .bool (Op.bytesLess x y))
  | .leq, .str x, .str y => some (true, .bool (Op.bytesLess x y || x == y))
  | .gtr, .str x, .str y => some (true, .bool !(Op.bytesLess x y || x == y))
  | .geq, .str x, .str y => some (true, .bool !(Op.bytesLess x y))
  | _, _, _ => none

def TK.isInt : TK → Bool
  | .int _ => true
  | _ => false

/-- Are two values of one cell alike? -/
def aeqK (k : TK) (a b : AV) : Option Bool :=
  match k, a, b with
  | .int _, .u8 x, .u8 y => some (x == y)
  | .int _, .u32 x, .u32 y => some (x == y)
  | .int _, .u64 x, .u64 y => some (x == y)
  | .int _, .int k x, .int k' y => bif eqK k k' then some (x == y) else none
  | .bool, .bool x, .bool y => some (x == y)
  | .string, .str x, .str y => some (x == y)
  | _, _, _ => none

def aeqIs (f : AV → AV → Option (Bool × Bool)) (te : TI) (xs ys : List AV) : Nat → Nat → Option (Bool × Bool)
  | 0, _ => some (true, true)
  | n + 1, i => match cut1 te xs (i * te.size), cut1 te ys (i * te.size) with
    | some (c, a), some (c', b) => match f a b, aeqIs f te xs ys n (i + 1) with
      | some (d, r), some (d', s) => some ((c && c') && (d && d'), r && s)
      | _, _ => none
    | _, _ => none

def aeqFs (f : Nat → AV → AV → Option (Bool × Bool)) (xs ys : List AV) : List (Nat × Nat) → Option (Bool × Bool)
  | [] => some (true, true)
  | (off, ft) :: fs => match G.ty ft with
    | some tf => match cut1 tf xs off, cut1 tf ys off with
      | some (c, a), some (c', b) => match f ft a b, aeqFs f xs ys fs with
        | some (d, r), some (d', s) => some ((c && c') && (d && d'), r && s)
        | _, _ => none
      | _, _ => none
    | none => none

def aeqT : Nat → Nat → AV → AV → Option (Bool × Bool)
  | 0, _, _, _ => none
  | d + 1, t, a, b => match G.ty t with
    | none => none
    | some ti => match ti.kind, a, b with
      | .arr n e, .b8 m l, .b8 m' l' => match G.ty e with
        | some te => some ((te.size == 1 && te.kind.isInt) && (n == m && n == m'), l == l')
        | none => none
      | .arr n e, .w32 m l, .w32 m' l' => match G.ty e with
        | some te => some ((te.size == 1 && te.kind.isInt) && (n == m && n == m'), l == l')
        | none => none
      | .arr n e, .w64 m l, .w64 m' l' => match G.ty e with
        | some te => some ((te.size == 1 && te.kind.isInt) && (n == m && n == m'), l == l')
        | none => none
      | .arr n e, .agg xs, .agg ys => match G.ty e with
        | some te => aeqIs (aeqT d e) te xs ys n 0
        | none => none
      | .str fs, .agg xs, .agg ys => match aeqFs G (aeqT d) xs ys fs with
        | some (c, r) => some (ti.sok && c, r)
        | none => none
      | k, a, b => match aeqK k a b with
        | some r => some (true, r)
        | none => none

def aAggEq (op : BinOp) (t : Nat) (ti : TI) (a b : AV) : Option (Bool × AV) :=
  match op with
  | .eql => match aeqT G 8 t a b with
    | some (c, r) => some (ti.eqf && c, .bool r)
    | none => none
  | .neq => match aeqT G 8 t a b with
    | some (c, r) => some (ti.eqf && c, .bool (!r))
    | none => none
  | _ => none

def aBin (op : BinOp) (t : Nat) (a b : AV) : Option (Bool × AV) :=
  match aArith op a b with
  | some r => some r
  | none => match (match op with
      | .shl => aShift op a b
      | .shr => aShift op a b
      | _ => aCmp op a b) with
    | some r => some r
    | none => match G.ty t with
      | some ti => match ti.kind with
        | .bool => aBoolEq op a b
        | .string => aStr op a b
        | .arr _ _ => aAggEq G op t ti a b
        | .str _ => aAggEq G op t ti a b
        | _ => none
      | none => none

def carry64r (x y c : UInt64) : UInt64 := if x.toNat + y.toNat + c.toNat < 18446744073709551616 then 0 else 1
def borrow64r (x y c : UInt64) : UInt64 := if x.toNat < y.toNat + c.toNat then 1 else 0
noncomputable def carry64 : UInt64 → UInt64 → UInt64 → UInt64 := (sealed carry64r).val
noncomputable def borrow64 : UInt64 → UInt64 → UInt64 → UInt64 := (sealed borrow64r).val
theorem carry64_eq (x y c : UInt64) : carry64 x y c = if x.toNat + y.toNat + c.toNat < 18446744073709551616 then 0 else 1 := by
  rw [carry64, (sealed carry64r).property, carry64r]
theorem borrow64_eq (x y c : UInt64) : borrow64 x y c = if x.toNat < y.toNat + c.toNat then 1 else 0 := by
  rw [borrow64, (sealed borrow64r).property, borrow64r]
theorem bit1_carry (x y c : UInt64) : leB (carry64 x y c).toNat 1 = true := by
  rw [carry64_eq]; split <;> rfl
theorem bit1_borrow (x y c : UInt64) : leB (borrow64 x y c).toNat 1 = true := by
  rw [borrow64_eq]; split <;> rfl
def bit1 (c : UInt64) : Bool := leB c.toNat 1

noncomputable def aext (k : FK) (args : List AV) : Option (Bool × AV) :=
  match k, args with
  | .add64, [.u64 x, .u64 y, .u64 c] => some (bit1 c, .tup [.u64 (x + y + c), .u64 (carry64 x y c)])
  | .sub64, [.u64 x, .u64 y, .u64 c] => some (bit1 c, .tup [.u64 (x - y - c), .u64 (borrow64 x y c)])
  | _, _ => none

def alen (k : TK) (x : AV) : Option AV :=
  match k, x with
  | .slice _, .vec8 _ l => some (.int .i64 l.length)
  | .slice _, .vec _ _ rows => some (.int .i64 rows.length)
  | .slice _, .vecr _ _ m _ => some (.int .i64 m)
  | .slice _, .slv _ _ m _ => some (.int .i64 m)
  | .slice _, .sl _ _ _ n => some (.int .i64 n)
  | .string, .str s => some (.int .i64 s.length)
  | _, _ => none

def aminmax (mx : Bool) (args : List AV) : Option AV :=
  match args with
  | [.int .i64 x, .int .i64 y] => some (.int .i64 (bif mx then max x y else min x y))
  | _ => none

/-- Is the value's form known? -/
def known : AV → Bool
  | .any => false
  | .raw v => v.oneCell'
  | _ => true


/-- Cells of a row of numbers, with some of them another one. -/
def setSeg : AV → Nat → AV → Option AV
  | .b8 m l, off, .u8 x => some (.b8 m (l.set off x))
  | .w32 m l, off, .u32 x => some (.w32 m (l.set off x))
  | .w64 m l, off, .u64 x => some (.w64 m (l.set off x))
  | .b8 m l, off, .b8 s l2 => some (.b8 m (l.take off ++ (l2 ++ l.drop (off + s))))
  | .w64 m l, off, .w64 s l2 => some (.w64 m (l.take off ++ (l2 ++ l.drop (off + s))))
  | .w32 m l, off, .w32 s l2 => some (.w32 m (l.take off ++ (l2 ++ l.drop (off + s))))
  | _, _, _ => none

mutual
/-- A value written over the cells from one on. -/
def setA : AV → Nat → AV → AV
  | .agg l, off, v => .agg (setL l off v)
  | a, off, v => match setSeg a off v with
    | some r => r
    | none => .agg (firstA a off ++ (v :: splitA a (off + szA v)))
def setL : List AV → Nat → AV → List AV
  | [], _, _ => []
  | a :: as, off, v =>
    bif leB (szA a) off then a :: setL as (off - szA a) v
    else bif leB (off + szA v) (szA a) then (bif off == 0 && szA v == szA a then v :: as else setA a off v :: as)
    else (bif off == 0 then [] else firstA a off) ++ (v :: dropL as (off + szA v - szA a))
end

/-- A number written into a row at a place that may be a variable. -/
def setX (c : List AV) (off n : Nat) (i : Int) (v : AV) : Option (List AV) :=
  match c with
  | [] => none
  | a :: as =>
    bif leB (szA a) off then (match setX as (off - szA a) n i v with
      | some l => some (a :: l)
      | none => none)
    else bif off == 0 then (match a, v with
      | .b8 m l, .u8 x => bif leB n m then some (.b8 m (l.set i.toNat x) :: as) else none
      | .w32 m l, .u32 x => bif leB n m then some (.w32 m (l.set i.toNat x) :: as) else none
      | .w64 m l, .u64 x => bif leB n m then some (.w64 m (l.set i.toNat x) :: as) else none
      | _, v => some (setL (a :: as) i.toNat v))
    else some (setL (a :: as) (off + i.toNat) v)

/-- The same, where the row is one of numbers alone. -/
def setX1 (c : List AV) (off n : Nat) (i : Int) (v : AV) : Option (List AV) :=
  match c, v with
  | [.b8 m l], .u8 x => some [.b8 m (l.set (ofs off i) x)]
  | [.w32 m l], .u32 x => some [.w32 m (l.set (ofs off i) x)]
  | [.w64 m l], .u64 x => some [.w64 m (l.set (ofs off i) x)]
  | c, v => setX c off n i v

/-- Parts written into a zero value's cells. -/
def afill (place : Nat → Option (Nat × Nat)) (cells : List AV) : List (Nat × AV) → Option (Bool × List AV)
  | [] => some (true, cells)
  | (i, v) :: rest =>
    match place i with
    | none => none
    | some (off, size) =>
      match afill place (setL cells off v) rest with
      | some (c, l) => some ((known v && (szA v == size && (leB (off + size) (szL cells) && size != 0))) && c, l)
      | none => none

def aplace (fs : List (Nat × Nat)) (i : Nat) : Option (Nat × Nat) :=
  match fs[i]? with
  | some (off, ft) => match G.ty ft with
    | some tf => some (off, tf.size)
    | none => none
  | none => none

def aplaceE (n i : Nat) : Option (Nat × Nat) := some (i * n, n)

def allTy (fs : List (Nat × Nat)) : Bool := fs.all fun f => (G.ty f.2).isSome

/-- A value of parts. -/
def abuild (t : Nat) (parts : List (Nat × AV)) : Option (Bool × AV) :=
  match G.ty t with
  | some ti => match ti.zero with
    | some z => match ti.kind with
      | .arr _ e => match G.ty e with
        | some ie => match afill (aplaceE ie.size) z.cells parts with
          | some (c, l) => some (isAg z && c, mkAg l)
          | none => none
        | none => none
      | .str fs => match afill (aplace G fs) z.cells parts with
        | some (c, l) => some ((isAg z && allTy G fs) && c, mkAg l)
        | none => none
      | _ => none
    | none => none
  | none => none

/-- What a slice of bytes holds. -/
def content8 (H : Heap) : AV → Option (Bool × List UInt8)
  | .vec8 _ l => some (true, l)
  | .sl id off k len => match H[id]? with
    | some (.grow8 l _) => some (k == 1 && leB (off + len) l.length, (l.drop off).take len)
    | some (.blk c _) => match takeL (dropL c off) len with
      | [.b8 m l] => some (k == 1 && m == len, l)
      | _ => none
    | _ => none
  | _ => none

end
end Go.V

/- The abstract layer (second state), part D: the model agrees with the numbers. -/
set_option linter.unusedSimpArgs false
set_option linter.unusedVariables false
namespace Go.V
open Go

section
variable {P : Program} {ρ : Rho} {I : Imm} {H : Heap} {w : World}

theorem run_underlying {P : Program} {t : Nat} {d : TypeDesc} (h : P.underlying t = some d) (w : World) : (underlying t).run P w = .ok d w := by
  simp [underlying, h]
theorem run_typeInfo {P : Program} {t : Nat} {i : TypeInfo} (h : P.info? t = some i) (w : World) : (typeInfo t).run P w = .ok i w := by
  simp [typeInfo, h]
theorem run_sizeOf {P : Program} {t : Nat} {i : TypeInfo} (h : P.info? t = some i) (w : World) : (sizeOf t).run P w = .ok i.size w := by
  simp [sizeOf, run_typeInfo h]
theorem run_isAgg {P : Program} {t : Nat} {d : TypeDesc} (h : P.underlying t = some d) (w : World) : (isAgg t).run P w = .ok (TK.of d).isAgg w := by
  cases d <;> simp [isAgg, run_underlying h, TK.of, TK.isAgg]

theorem run_shift_shl {P : Program} {w : World} {k yk : IntKind} {x y : Int} (h : 0 ≤ y) :
    (Op.shift .shl k x yk y).run P w = .ok (.int k (k.wrap (x * 2 ^ min y.toNat k.bits))) w := by
  have : ¬ y < 0 := by omega
  simp [Op.shift, this]

theorem run_shift_shr {P : Program} {w : World} {k yk : IntKind} {x y : Int} (h : 0 ≤ y) :
    (Op.shift .shr k x yk y).run P w = .ok (.int k (x.fdiv (2 ^ min y.toNat k.bits))) w := by
  have : ¬ y < 0 := by omega
  simp [Op.shift, this]


theorem wrap_nat {k : IntKind} (hk : k.signed = false) (n : Nat) (h : n < 2 ^ k.bits) : k.wrap (n : Int) = n := by
  have h' : (n : Int) < 2 ^ k.bits := by exact_mod_cast h
  simp only [IntKind.wrap, hk, Bool.false_and, Bool.false_eq_true, if_false]
  exact Int.emod_eq_of_lt (by omega) h'

theorem ofInt_u8 (x : UInt8) : BitVec.ofInt 8 (x.toNat : Int) = x.toBitVec := by
  rw [BitVec.ofInt_natCast]; apply BitVec.eq_of_toNat_eq; simp
theorem ofInt_u32 (x : UInt32) : BitVec.ofInt 32 (x.toNat : Int) = x.toBitVec := by
  rw [BitVec.ofInt_natCast]; apply BitVec.eq_of_toNat_eq; simp
theorem ofInt_u64 (x : UInt64) : BitVec.ofInt 64 (x.toNat : Int) = x.toBitVec := by
  rw [BitVec.ofInt_natCast]; apply BitVec.eq_of_toNat_eq; simp

theorem wrap_u8 (v : BitVec 8) : IntKind.u8.wrap (v.toNat : Int) = v.toNat := wrap_nat rfl _ v.isLt
theorem wrap_u32 (v : BitVec 32) : IntKind.u32.wrap (v.toNat : Int) = v.toNat := wrap_nat rfl _ v.isLt
theorem wrap_u64 (v : BitVec 64) : IntKind.u64.wrap (v.toNat : Int) = v.toNat := wrap_nat rfl _ v.isLt

theorem bits_u8 (op : BinOp) (x y : UInt8) : bits op .u8 x.toNat y.toNat =
    ((match op with | .and => x &&& y | .or => x ||| y | .xor => x ^^^ y | _ => x &&& ~~~y).toNat : Int) := by
  have hx := ofInt_u8 x
  have hy := ofInt_u8 y
  simp only [bits, IntKind.bits, hx, hy]
  cases op <;> exact wrap_u8 _
theorem bits_u32 (op : BinOp) (x y : UInt32) : bits op .u32 x.toNat y.toNat =
    ((match op with | .and => x &&& y | .or => x ||| y | .xor => x ^^^ y | _ => x &&& ~~~y).toNat : Int) := by
  have hx := ofInt_u32 x
  have hy := ofInt_u32 y
  simp only [bits, IntKind.bits, hx, hy]
  cases op <;> exact wrap_u32 _
theorem bits_u64 (op : BinOp) (x y : UInt64) : bits op .u64 x.toNat y.toNat =
    ((match op with | .and => x &&& y | .or => x ||| y | .xor => x ^^^ y | _ => x &&& ~~~y).toNat : Int) := by
  have hx := ofInt_u64 x
  have hy := ofInt_u64 y
  simp only [bits, IntKind.bits, hx, hy]
  cases op <;> exact wrap_u64 _

theorem uwrap_u8 (n : Int) : IntKind.u8.wrap n = n % 256 := by simp [IntKind.wrap, IntKind.bits, IntKind.signed]
theorem uwrap_u32 (n : Int) : IntKind.u32.wrap n = n % 4294967296 := by simp [IntKind.wrap, IntKind.bits, IntKind.signed]
theorem uwrap_u64 (n : Int) : IntKind.u64.wrap n = n % 18446744073709551616 := by simp [IntKind.wrap, IntKind.bits, IntKind.signed]

theorem run_unary {op : UnOp} {x v : AV} {vx : Value} (rx : rel ρ I w x vx) (h : aUn op x = some v) : ∃ y, (Op.unary op vx).run P w = .ok y w ∧ rel ρ I w v y := by
  unfold aUn at h
  split at h <;> simp only [Option.some.injEq, reduceCtorEq] at h <;> subst h <;> (simp only [rel_u8, rel_u32, rel_u64, rel_int, rel_bool, rel_str] at rx; subst rx)
  · exact ⟨_, by simp [Op.unary]; rfl, by simp [rel_u8, rel_u32, rel_u64, rel_int, rel_bool, rel_str]⟩
  · refine ⟨_, by simp [Op.unary, Op.intArith]; rfl, ?_⟩
    rename_i x
    simp only [rel_u8, rel_u32, rel_u64, rel_int, rel_bool, rel_str, Value.int.injEq, true_and, UInt64.toNat_sub, uwrap_u64]
    have := x.toNat_lt
    simp
    omega
  · exact ⟨_, by simp [Op.unary, Op.intArith]; rfl, by simp [wr_eq, subI_eq, rel_u8, rel_u32, rel_u64, rel_int, rel_bool, rel_str]⟩
  · rename_i x
    refine ⟨.int .u32 (bits .xor .u32 IntKind.u32.max x.toNat), rfl, ?_⟩
    have h1 : IntKind.u32.max = ((4294967295 : UInt32).toNat : Int) := by decide
    rw [h1, bits_u32]
    simp only [rel_u8, rel_u32, rel_u64, rel_int, rel_bool, rel_str, Value.int.injEq, true_and]
    congr 2
  · rename_i x
    refine ⟨.int .u64 (bits .xor .u64 IntKind.u64.max x.toNat), rfl, ?_⟩
    have h1 : IntKind.u64.max = ((18446744073709551615 : UInt64).toNat : Int) := by decide
    rw [h1, bits_u64]
    simp only [rel_u8, rel_u32, rel_u64, rel_int, rel_bool, rel_str, Value.int.injEq, true_and]
    congr 2

theorem run_arith {op : BinOp} {t : Nat} {x y : AV} {vx vy : Value} (rx : rel ρ I w x vx) (ry : rel ρ I w y vy) {p : Bool × AV} (h : aArith op x y = some p) (hp : p.1 = true) :
    ∃ z, (binOp op t vx vy).run P w = .ok z w ∧ rel ρ I w p.2 z := by
  unfold aArith at h
  split at h <;> simp only [Option.some.injEq, reduceCtorEq] at h <;> subst h <;> (simp only [rel_u8, rel_u32, rel_u64, rel_int, rel_bool, rel_str] at rx ry; subst rx ry) <;> simp only [bne_iff_ne, Bool.and_eq_true, eqK, decide_eq_true_eq, ltB_iff] at hp
  case h_1 x y => exact ⟨.int .u8 _, rfl, by simp only [rel_u8, rel_u32, rel_u64, rel_int, rel_bool, rel_str, Value.int.injEq, true_and, uwrap_u8, UInt8.toNat_add]; simp⟩
  case h_2 x y => exact ⟨.int .u8 _, rfl, by simp only [rel_u8, rel_u32, rel_u64, rel_int, rel_bool, rel_str, Value.int.injEq, true_and, uwrap_u8, UInt8.toNat_sub]; have := x.toNat_lt; have := y.toNat_lt; omega⟩
  case h_3 x y => exact ⟨.int .u8 _, rfl, by simp only [rel_u8, rel_u32, rel_u64, rel_int, rel_bool, rel_str, Value.int.injEq, true_and, uwrap_u8, UInt8.toNat_mul]; simp⟩
  case h_4 x y => exact ⟨.int .u8 (bits .and .u8 x.toNat y.toNat), rfl, by rw [bits_u8]; simp [rel_u8, rel_u32, rel_u64, rel_int, rel_bool, rel_str]⟩
  case h_5 x y => exact ⟨.int .u8 (bits .or .u8 x.toNat y.toNat), rfl, by rw [bits_u8]; simp [rel_u8, rel_u32, rel_u64, rel_int, rel_bool, rel_str]⟩
  case h_6 x y => exact ⟨.int .u8 (bits .xor .u8 x.toNat y.toNat), rfl, by rw [bits_u8]; simp [rel_u8, rel_u32, rel_u64, rel_int, rel_bool, rel_str]⟩
  case h_7 x y => exact ⟨.int .u8 (bits .andNot .u8 x.toNat y.toNat), rfl, by rw [bits_u8]; simp [rel_u8, rel_u32, rel_u64, rel_int, rel_bool, rel_str]⟩
  case h_8 x y =>
    have hy : y.toNat ≠ 0 := fun e => hp (UInt8.toNat_inj.1 e)
    refine ⟨.int .u8 (IntKind.u8.wrap ((x.toNat : Int).tdiv y.toNat)), by simp [binOp, Op.intDiv, hy], ?_⟩
    simp only [rel_u8, rel_u32, rel_u64, rel_int, rel_bool, rel_str, Value.int.injEq, true_and, uwrap_u8, UInt8.toNat_div]
    rw [← Int.ofNat_tdiv]
    have h1 := x.toNat_lt
    have h2 := Nat.div_le_self x.toNat y.toNat
    show ((x.toNat / y.toNat : Nat) : Int) % 256 = ((x.toNat / y.toNat : Nat) : Int)
    generalize x.toNat / y.toNat = q at *
    omega
  case h_9 x y =>
    have hy : y.toNat ≠ 0 := fun e => hp (UInt8.toNat_inj.1 e)
    refine ⟨.int .u8 ((x.toNat : Int).tmod y.toNat), by simp [binOp, Op.intDiv, hy], ?_⟩
    simp only [rel_u8, rel_u32, rel_u64, rel_int, rel_bool, rel_str, Value.int.injEq, true_and, UInt8.toNat_mod]
    rw [← Int.ofNat_tmod]
  case h_10 x y => exact ⟨.int .u32 _, rfl, by simp only [rel_u8, rel_u32, rel_u64, rel_int, rel_bool, rel_str, Value.int.injEq, true_and, uwrap_u32, UInt32.toNat_add]; simp⟩
  case h_11 x y => exact ⟨.int .u32 _, rfl, by simp only [rel_u8, rel_u32, rel_u64, rel_int, rel_bool, rel_str, Value.int.injEq, true_and, uwrap_u32, UInt32.toNat_sub]; have := x.toNat_lt; have := y.toNat_lt; omega⟩
  case h_12 x y => exact ⟨.int .u32 _, rfl, by simp only [rel_u8, rel_u32, rel_u64, rel_int, rel_bool, rel_str, Value.int.injEq, true_and, uwrap_u32, UInt32.toNat_mul]; simp⟩
  case h_13 x y => exact ⟨.int .u32 (bits .and .u32 x.toNat y.toNat), rfl, by rw [bits_u32]; simp [rel_u8, rel_u32, rel_u64, rel_int, rel_bool, rel_str]⟩
  case h_14 x y => exact ⟨.int .u32 (bits .or .u32 x.toNat y.toNat), rfl, by rw [bits_u32]; simp [rel_u8, rel_u32, rel_u64, rel_int, rel_bool, rel_str]⟩
  case h_15 x y => exact ⟨.int .u32 (bits .xor .u32 x.toNat y.toNat), rfl, by rw [bits_u32]; simp [rel_u8, rel_u32, rel_u64, rel_int, rel_bool, rel_str]⟩
  case h_16 x y => exact ⟨.int .u32 (bits .andNot .u32 x.toNat y.toNat), rfl, by rw [bits_u32]; simp [rel_u8, rel_u32, rel_u64, rel_int, rel_bool, rel_str]⟩
  case h_17 x y => exact ⟨.int .u64 _, rfl, by simp only [rel_u8, rel_u32, rel_u64, rel_int, rel_bool, rel_str, Value.int.injEq, true_and, uwrap_u64, UInt64.toNat_add]; simp⟩
  case h_18 x y => exact ⟨.int .u64 _, rfl, by simp only [rel_u8, rel_u32, rel_u64, rel_int, rel_bool, rel_str, Value.int.injEq, true_and, uwrap_u64, UInt64.toNat_sub]; have := x.toNat_lt; have := y.toNat_lt; omega⟩
  case h_19 x y => exact ⟨.int .u64 _, rfl, by simp only [rel_u8, rel_u32, rel_u64, rel_int, rel_bool, rel_str, Value.int.injEq, true_and, uwrap_u64, UInt64.toNat_mul]; simp⟩
  case h_20 x y => exact ⟨.int .u64 (bits .and .u64 x.toNat y.toNat), rfl, by rw [bits_u64]; simp [rel_u8, rel_u32, rel_u64, rel_int, rel_bool, rel_str]⟩
  case h_21 x y => exact ⟨.int .u64 (bits .or .u64 x.toNat y.toNat), rfl, by rw [bits_u64]; simp [rel_u8, rel_u32, rel_u64, rel_int, rel_bool, rel_str]⟩
  case h_22 x y => exact ⟨.int .u64 (bits .xor .u64 x.toNat y.toNat), rfl, by rw [bits_u64]; simp [rel_u8, rel_u32, rel_u64, rel_int, rel_bool, rel_str]⟩
  case h_23 x y => exact ⟨.int .u64 (bits .andNot .u64 x.toNat y.toNat), rfl, by rw [bits_u64]; simp [rel_u8, rel_u32, rel_u64, rel_int, rel_bool, rel_str]⟩
  case h_24 k x k' y => subst hp; exact ⟨_, by simp [binOp, Op.intArith]; rfl, by simp [wr_eq, subI_eq, rel_u8, rel_u32, rel_u64, rel_int, rel_bool, rel_str]⟩
  case h_25 k x k' y => subst hp; exact ⟨_, by simp [binOp, Op.intArith]; rfl, by simp [wr_eq, subI_eq, rel_u8, rel_u32, rel_u64, rel_int, rel_bool, rel_str]⟩
  case h_26 k x k' y => subst hp; exact ⟨_, by simp [binOp, Op.intArith]; rfl, by simp [wr_eq, subI_eq, rel_u8, rel_u32, rel_u64, rel_int, rel_bool, rel_str]⟩
  case h_27 k x k' y => obtain ⟨rfl, hp⟩ := hp; exact ⟨_, by simp [binOp, Op.intDiv, hp]; rfl, by simp [wr_eq, subI_eq, rel_u8, rel_u32, rel_u64, rel_int, rel_bool, rel_str]⟩
  case h_28 k x k' y => obtain ⟨rfl, hp⟩ := hp; exact ⟨_, by simp [binOp, Op.intDiv, hp]; rfl, by simp [rel_u8, rel_u32, rel_u64, rel_int, rel_bool, rel_str]⟩
  case h_29 k x k' y => subst hp; exact ⟨.int k' (bits .and k' x y), by simp [binOp, intBits_and], by simp [rel_u8, rel_u32, rel_u64, rel_int, rel_bool, rel_str]⟩
  case h_30 k x k' y => subst hp; exact ⟨.int k' (bits .or k' x y), by simp [binOp, intBits_or], by simp [rel_u8, rel_u32, rel_u64, rel_int, rel_bool, rel_str]⟩
  case h_31 k x k' y => subst hp; exact ⟨.int k' (bits .xor k' x y), by simp [binOp, intBits_xor], by simp [rel_u8, rel_u32, rel_u64, rel_int, rel_bool, rel_str]⟩
  case h_32 k x k' y => subst hp; exact ⟨.int k' (bits .andNot k' x y), by simp [binOp, intBits_andNot], by simp [rel_u8, rel_u32, rel_u64, rel_int, rel_bool, rel_str]⟩

theorem run_cmp {op : BinOp} (hop : op ≠ .shl ∧ op ≠ .shr) {t : Nat} {x y : AV} {vx vy : Value} (rx : rel ρ I w x vx) (ry : rel ρ I w y vy) {p : Bool × AV} (h : aCmp op x y = some p) (hp : p.1 = true) :
    ∃ z, (binOp op t vx vy).run P w = .ok z w ∧ rel ρ I w p.2 z := by
  unfold aCmp at h
  split at h
  · rename_i k a k' b ha hb
    have e1 := rel_toI ha rx
    have e2 := rel_toI hb ry
    subst e1 e2
    split at h
    case h_2 => simp at h
    rename_i r hr
    simp only [Option.some.injEq] at h
    subst h
    simp only [eqK, decide_eq_true_eq] at hp
    subst hp
    cases op <;> simp only [cmpI, Option.some.injEq, reduceCtorEq] at hr <;> subst hr <;> exact ⟨.bool _, by simp [binOp, Op.intCmp]; rfl, by simp [ltI_eq, notLt, rel_u8, rel_u32, rel_u64, rel_int, rel_bool, rel_str]⟩
  · simp at h


theorem run_shift {op : BinOp} {t : Nat} {x y : AV} {vx vy : Value} (rx : rel ρ I w x vx) (ry : rel ρ I w y vy) {p : Bool × AV} (h : aShift op x y = some p) (hp : p.1 = true) :
    ∃ z, (binOp op t vx vy).run P w = .ok z w ∧ rel ρ I w p.2 z := by
  unfold aShift at h
  split at h
  · simp at h
  · rename_i k n hb
    have e2 := rel_toI hb ry
    subst e2
    split at h <;> simp only [Option.some.injEq, reduceCtorEq] at h <;> subst h <;> (simp only [rel_u8, rel_u32, rel_u64, rel_int, rel_bool, rel_str] at rx; subst rx) <;> simp only [nnB_iff] at hp
    case h_1 x =>
      refine ⟨_, run_shift_shl (x := (x.toNat : Int)) (yk := k) hp, ?_⟩
      simp only [rel_u8, rel_u32, rel_u64, rel_int, rel_bool, rel_str, Value.int.injEq, true_and, uwrap_u8, shl8, UInt8.toNat_ofNat', IntKind.bits]
      rcases Nat.lt_or_ge n.toNat 8 with hn | hn
      · rw [Nat.min_eq_left (by omega), Int.natCast_emod, Int.natCast_mul, Int.natCast_pow]; rfl
      · rw [Nat.min_eq_right hn]
        obtain ⟨q, hq⟩ := Nat.exists_eq_add_of_le hn
        rw [hq, Nat.pow_add, ← Nat.mul_assoc, Nat.mul_assoc x.toNat, Nat.mul_comm (2 ^ 8), ← Nat.mul_assoc, Nat.mul_mod_left]
        omega
    case h_2 x =>
      refine ⟨_, run_shift_shl (x := (x.toNat : Int)) (yk := k) hp, ?_⟩
      simp only [rel_u8, rel_u32, rel_u64, rel_int, rel_bool, rel_str, Value.int.injEq, true_and, uwrap_u32, shl32, UInt32.toNat_ofNat', IntKind.bits]
      rcases Nat.lt_or_ge n.toNat 32 with hn | hn
      · rw [Nat.min_eq_left (by omega), Int.natCast_emod, Int.natCast_mul, Int.natCast_pow]; rfl
      · rw [Nat.min_eq_right hn]
        obtain ⟨q, hq⟩ := Nat.exists_eq_add_of_le hn
        rw [hq, Nat.pow_add, ← Nat.mul_assoc, Nat.mul_assoc x.toNat, Nat.mul_comm (2 ^ 32), ← Nat.mul_assoc, Nat.mul_mod_left]
        omega
    case h_3 x =>
      refine ⟨_, run_shift_shl (x := (x.toNat : Int)) (yk := k) hp, ?_⟩
      simp only [rel_u8, rel_u32, rel_u64, rel_int, rel_bool, rel_str, Value.int.injEq, true_and, uwrap_u64, shl64, UInt64.toNat_ofNat', IntKind.bits]
      rcases Nat.lt_or_ge n.toNat 64 with hn | hn
      · rw [Nat.min_eq_left (by omega), Int.natCast_emod, Int.natCast_mul, Int.natCast_pow]; rfl
      · rw [Nat.min_eq_right hn]
        obtain ⟨q, hq⟩ := Nat.exists_eq_add_of_le hn
        rw [hq, Nat.pow_add, ← Nat.mul_assoc, Nat.mul_assoc x.toNat, Nat.mul_comm (2 ^ 64), ← Nat.mul_assoc, Nat.mul_mod_left]
        omega
    case h_4 x =>
      refine ⟨_, run_shift_shr (x := (x.toNat : Int)) (yk := k) hp, ?_⟩
      simp only [rel_u8, rel_u32, rel_u64, rel_int, rel_bool, rel_str, Value.int.injEq, true_and, shr8, UInt8.toNat_ofNat', IntKind.bits]
      have hx := x.toNat_lt
      have e : x.toNat / 2 ^ n.toNat % 2 ^ 8 = x.toNat / 2 ^ min n.toNat 8 := by
        rw [Nat.mod_eq_of_lt (Nat.lt_of_le_of_lt (Nat.div_le_self _ _) hx)]
        rcases Nat.lt_or_ge n.toNat 8 with hn | hn
        · rw [Nat.min_eq_left (by omega)]
        · rw [Nat.min_eq_right hn, Nat.div_eq_of_lt hx, Nat.div_eq_of_lt (Nat.lt_of_lt_of_le hx (Nat.pow_le_pow_right (by decide) hn))]
      rw [e, Int.fdiv_eq_ediv_of_nonneg _ (Int.pow_nonneg (by decide))]
      push_cast; rfl
    case h_5 x =>
      refine ⟨_, run_shift_shr (x := (x.toNat : Int)) (yk := k) hp, ?_⟩
      simp only [rel_u8, rel_u32, rel_u64, rel_int, rel_bool, rel_str, Value.int.injEq, true_and, shr32, UInt32.toNat_ofNat', IntKind.bits]
      have hx := x.toNat_lt
      have e : x.toNat / 2 ^ n.toNat % 2 ^ 32 = x.toNat / 2 ^ min n.toNat 32 := by
        rw [Nat.mod_eq_of_lt (Nat.lt_of_le_of_lt (Nat.div_le_self _ _) hx)]
        rcases Nat.lt_or_ge n.toNat 32 with hn | hn
        · rw [Nat.min_eq_left (by omega)]
        · rw [Nat.min_eq_right hn, Nat.div_eq_of_lt hx, Nat.div_eq_of_lt (Nat.lt_of_lt_of_le hx (Nat.pow_le_pow_right (by decide) hn))]
      rw [e, Int.fdiv_eq_ediv_of_nonneg _ (Int.pow_nonneg (by decide))]
      push_cast; rfl
    case h_6 x =>
      refine ⟨_, run_shift_shr (x := (x.toNat : Int)) (yk := k) hp, ?_⟩
      simp only [rel_u8, rel_u32, rel_u64, rel_int, rel_bool, rel_str, Value.int.injEq, true_and, shr64, UInt64.toNat_ofNat', IntKind.bits]
      have hx := x.toNat_lt
      have e : x.toNat / 2 ^ n.toNat % 2 ^ 64 = x.toNat / 2 ^ min n.toNat 64 := by
        rw [Nat.mod_eq_of_lt (Nat.lt_of_le_of_lt (Nat.div_le_self _ _) hx)]
        rcases Nat.lt_or_ge n.toNat 64 with hn | hn
        · rw [Nat.min_eq_left (by omega)]
        · rw [Nat.min_eq_right hn, Nat.div_eq_of_lt hx, Nat.div_eq_of_lt (Nat.lt_of_lt_of_le hx (Nat.pow_le_pow_right (by decide) hn))]
      rw [e, Int.fdiv_eq_ediv_of_nonneg _ (Int.pow_nonneg (by decide))]
      push_cast; rfl
    case h_7 x => exact ⟨_, by simp [binOp]; exact run_shift_shl hp, by simp [wr_eq, subI_eq, rel_u8, rel_u32, rel_u64, rel_int, rel_bool, rel_str, IntKind.bits]⟩
    case h_8 x => exact ⟨_, by simp [binOp]; exact run_shift_shr hp, by simp [rel_u8, rel_u32, rel_u64, rel_int, rel_bool, rel_str, IntKind.bits]⟩

theorem run_boolEq {op : BinOp} {t : Nat} (ht : P.underlying t = some .bool) {x y : AV} {vx vy : Value} (rx : rel ρ I w x vx) (ry : rel ρ I w y vy) {p : Bool × AV} (h : aBoolEq op x y = some p) :
    ∃ z, (binOp op t vx vy).run P w = .ok z w ∧ rel ρ I w p.2 z := by
  unfold aBoolEq at h
  split at h <;> simp only [Option.some.injEq, reduceCtorEq] at h <;> subst h <;> (simp only [rel_u8, rel_u32, rel_u64, rel_int, rel_bool, rel_str] at rx ry; subst rx ry)
  · exact ⟨_, run_eql_bool w t _ _ ht, by simp [rel_u8, rel_u32, rel_u64, rel_int, rel_bool, rel_str]⟩
  · exact ⟨_, run_neq_bool w t _ _ ht, by simp [rel_u8, rel_u32, rel_u64, rel_int, rel_bool, rel_str, bne]⟩

theorem toList_mk (l : List UInt8) : (⟨l.toArray⟩ : ByteArray).toList = l := by
  rw [ByteArray.toList_eq]

theorem run_str {op : BinOp} {t : Nat} {x y : AV} {vx vy : Value} (rx : rel ρ I w x vx) (ry : rel ρ I w y vy) {p : Bool × AV} (h : aStr op x y = some p) (hp : p.1 = true) :
    ∃ z, (binOp op t vx vy).run P w = .ok z w ∧ rel ρ I w p.2 z := by
  have step : ∀ (x y : List UInt8), (binOp op t (.string ⟨x.toArray⟩) (.string ⟨y.toArray⟩)).run P w = (Op.stringOp op ⟨x.toArray⟩ ⟨y.toArray⟩).run P w := by
    intro x y; cases op <;> rfl
  unfold aStr at h
  split at h <;> simp only [Option.some.injEq, reduceCtorEq] at h <;> subst h <;> (simp only [rel_u8, rel_u32, rel_u64, rel_int, rel_bool, rel_str] at rx ry; subst rx ry) <;> simp only [bne_iff_ne, Bool.and_eq_true, eqK, decide_eq_true_eq, ltB_iff] at hp <;> rw [step]
  case h_1 x y =>
    refine ⟨.string (⟨x.toArray⟩ ++ ⟨y.toArray⟩), ?_, ?_⟩
    · have h1 : IntKind.i64.max = 9223372036854775807 := by decide
      have h2 : ¬ ((((⟨x.toArray⟩ : ByteArray).size + (⟨y.toArray⟩ : ByteArray).size : Nat) : Int) > IntKind.i64.max) := by
        simp only [ByteArray.size, List.size_toArray, h1]
        omega
      unfold Op.stringOp
      simp only [if_neg h2]
      rfl
    · simp only [rel_u8, rel_u32, rel_u64, rel_int, rel_bool, rel_str, Value.string.injEq]
      apply ByteArray.ext
      simp
  case h_2 x y => exact ⟨.bool _, by simp only [Op.stringOp, toList_mk]; rfl, by simp [rel_u8, rel_u32, rel_u64, rel_int, rel_bool, rel_str]⟩
  case h_3 x y => exact ⟨.bool _, by simp only [Op.stringOp, toList_mk]; rfl, by simp [rel_u8, rel_u32, rel_u64, rel_int, rel_bool, rel_str, bne]⟩
  case h_4 x y => exact ⟨.bool _, by simp only [Op.stringOp, toList_mk]; rfl, by simp [rel_u8, rel_u32, rel_u64, rel_int, rel_bool, rel_str]⟩
  case h_5 x y => exact ⟨.bool _, by simp only [Op.stringOp, toList_mk]; rfl, by simp [rel_u8, rel_u32, rel_u64, rel_int, rel_bool, rel_str]⟩
  case h_6 x y => exact ⟨.bool _, by simp only [Op.stringOp, toList_mk]; rfl, by simp [rel_u8, rel_u32, rel_u64, rel_int, rel_bool, rel_str]⟩
  case h_7 x y => exact ⟨.bool _, by simp only [Op.stringOp, toList_mk]; rfl, by simp [rel_u8, rel_u32, rel_u64, rel_int, rel_bool, rel_str]⟩

theorem run_cvt {k : IntKind} {s d : Nat} {ds : TypeDesc} (hs : P.underlying s = some ds) (hd : P.underlying d = some (.int k)) {x v : AV} {vx : Value} (rx : rel ρ I w x vx) (h : cvt k x = some v) :
    ∃ z, (convert s d vx).run P w = .ok z w ∧ rel ρ I w v z := by
  have key : ∀ (k' : IntKind) (n : Int), vx = .int k' n → (convert s d vx).run P w = .ok (.int k (k.wrap n)) w := by
    rintro k' n rfl
    simp [convert, run_underlying hs, run_underlying hd, Conv.intToInt]
  unfold cvt at h
  split at h
  case h_15 =>
    split at h
    · rename_i k1 n hn
      simp only [Option.some.injEq] at h
      subst h
      exact ⟨_, key _ _ (rel_toI hn rx), by simp [wr_eq, subI_eq, rel_u8, rel_u32, rel_u64, rel_int, rel_bool, rel_str]⟩
    · simp at h
  all_goals simp only [Option.some.injEq] at h
  all_goals subst h
  all_goals (simp only [rel_u8, rel_u32, rel_u64, rel_int, rel_bool, rel_str] at rx; refine ⟨_, key _ _ rx, ?_⟩; simp only [rel_u8, rel_u32, rel_u64, rel_int, rel_bool, rel_str, Value.int.injEq, true_and, uwrap_u8, uwrap_u32, uwrap_u64])
  case h_1 x => have := x.toNat_lt; omega
  case h_2 x => rw [UInt32.toNat_toUInt8]; omega
  case h_3 x => rw [UInt64.toNat_toUInt8]; omega
  case h_4 n => rw [UInt8.toNat_ofNat']; omega
  case h_5 x => have := x.toNat_lt; rw [UInt8.toNat_toUInt32]; omega
  case h_6 x => have := x.toNat_lt; omega
  case h_7 x => rw [UInt64.toNat_toUInt32]; omega
  case h_8 n => rw [UInt32.toNat_ofNat']; omega
  case h_9 x => have := x.toNat_lt; rw [UInt8.toNat_toUInt64]; omega
  case h_10 x => have := x.toNat_lt; rw [UInt32.toNat_toUInt64]; omega
  case h_11 x => have := x.toNat_lt; omega
  case h_12 n => rw [UInt64.toNat_ofNat']; omega
  case h_13 x => have := x.toNat_lt; simp only [IntKind.wrap, IntKind.bits, IntKind.signed]; simp; omega
  case h_14 x => have := x.toNat_lt; simp only [IntKind.wrap, IntKind.bits, IntKind.signed]; simp; omega


end
end Go.V

/- The abstract layer (second state), part C: rows of cells taken apart and written. -/
set_option linter.unusedSimpArgs false
set_option linter.unusedVariables false
namespace Go.V
open Go

section
variable {P : Program} {ρ : Rho} {I : Imm} {w : World}

theorem v8_drop (l : List UInt8) (n : Nat) : (v8 l).drop n = v8 (l.drop n) := by simp [v8]
theorem v32_drop (l : List UInt32) (n : Nat) : (v32 l).drop n = v32 (l.drop n) := by simp [v32]
theorem vi64_drop (l : List Int) (n : Nat) : (vi64 l).drop n = vi64 (l.drop n) := by simp [vi64]
theorem vi64_take (l : List Int) (n : Nat) : (vi64 l).take n = vi64 (l.take n) := by simp [vi64]
theorem vi64_get {l : List Int} {i : Nat} (h : i < l.length) : (vi64 l)[i]? = some (.int .i64 (l.getD i 0)) := by simp [vi64, List.getD, h]
theorem v64_drop (l : List UInt64) (n : Nat) : (v64 l).drop n = v64 (l.drop n) := by simp [v64]
theorem v8_take (l : List UInt8) (n : Nat) : (v8 l).take n = v8 (l.take n) := by simp [v8]
theorem v32_take (l : List UInt32) (n : Nat) : (v32 l).take n = v32 (l.take n) := by simp [v32]
theorem v64_take (l : List UInt64) (n : Nat) : (v64 l).take n = v64 (l.take n) := by simp [v64]
theorem v8_append (l l' : List UInt8) : v8 l ++ v8 l' = v8 (l ++ l') := by simp [v8]
theorem v32_append (l l' : List UInt32) : v32 l ++ v32 l' = v32 (l ++ l') := by simp [v32]
theorem v64_append (l l' : List UInt64) : v64 l ++ v64 l' = v64 (l ++ l') := by simp [v64]
theorem v8_get {l : List UInt8} {i : Nat} (h : i < l.length) : (v8 l)[i]? = some (.int .u8 (l.getD i 0).toNat) := by simp [v8, List.getD, h]
theorem v32_get {l : List UInt32} {i : Nat} (h : i < l.length) : (v32 l)[i]? = some (.int .u32 (l.getD i 0).toNat) := by simp [v32, List.getD, h]
theorem v64_get {l : List UInt64} {i : Nat} (h : i < l.length) : (v64 l)[i]? = some (.int .u64 (l.getD i 0).toNat) := by simp [v64, List.getD, h]
theorem v8_set (l : List UInt8) (i : Nat) (x : UInt8) : (v8 l).set i (.int .u8 x.toNat) = v8 (l.set i x) := by simp [v8, List.map_set]
theorem v32_set (l : List UInt32) (i : Nat) (x : UInt32) : (v32 l).set i (.int .u32 x.toNat) = v32 (l.set i x) := by simp [v32, List.map_set]
theorem v64_set (l : List UInt64) (i : Nat) (x : UInt64) : (v64 l).set i (.int .u64 x.toNat) = v64 (l.set i x) := by simp [v64, List.map_set]

theorem leB_false {a b : Nat} (h : leB a b = false) : b < a := by
  apply Nat.lt_of_not_le; intro hc; rw [leB_of hc] at h; cases h
theorem beq0_false {n : Nat} (h : (n == 0) = false) : 0 < n := by
  have : n ≠ 0 := by simpa using h
  omega

theorem R_one {a : AV} {ys : List Value} (ha : isAg a = false) (h : R ρ I w a ys) : ∃ x, ys = [x] ∧ rel ρ I w a x := by
  cases a <;> simp only [isAg, reduceCtorEq] at ha
  case any => obtain ⟨x, rfl⟩ := h; exact ⟨x, rfl, rel_any⟩
  case raw v => cases h; exact ⟨v, rfl, rel_raw.2 rfl⟩
  case int k n => cases h; exact ⟨_, rfl, rel_int.2 rfl⟩
  case u8 x => cases h; exact ⟨_, rfl, rel_u8.2 rfl⟩
  case u32 x => cases h; exact ⟨_, rfl, rel_u32.2 rfl⟩
  case u64 x => cases h; exact ⟨_, rfl, rel_u64.2 rfl⟩
  case bool b => cases h; exact ⟨_, rfl, rel_bool.2 rfl⟩
  case str s => cases h; exact ⟨_, rfl, rel_str.2 rfl⟩
  all_goals (have h' := h; obtain ⟨v, rfl, _⟩ := h'; exact ⟨v, rfl, h⟩)

theorem rel_one {a : AV} {x : Value} (ha : isAg a = false) (h : rel ρ I w a x) : R ρ I w a [x] := by
  cases a <;> simp only [isAg, reduceCtorEq] at ha
  case any => exact ⟨x, rfl⟩
  all_goals exact h

theorem rel_ag {a : AV} {x : Value} (ha : isAg a = true) : rel ρ I w a x ↔ ∃ cs : Array Value, x = .agg cs ∧ R ρ I w a cs.toList := by
  cases a <;> simp only [isAg, reduceCtorEq] at ha <;> exact Iff.rfl

mutual
theorem R_split : ∀ (a : AV) (ys : List Value) (n : Nat), R ρ I w a ys → 0 < n → n < szA a → RL ρ I w (splitA a n) (ys.drop n)
  | .b8 m l, _, n, ⟨h, h'⟩, _, hn => by
    subst h
    exact ⟨_, [], by simp [v8_drop], ⟨rfl, by simp [h']⟩, rfl⟩
  | .w32 m l, _, n, ⟨h, h'⟩, _, hn => by
    subst h
    exact ⟨_, [], by simp [v32_drop], ⟨rfl, by simp [h']⟩, rfl⟩
  | .w64 m l, _, n, ⟨h, h'⟩, _, hn => by
    subst h
    exact ⟨_, [], by simp [v64_drop], ⟨rfl, by simp [h']⟩, rfl⟩
  | .n64 m l, _, n, ⟨h, h'⟩, _, hn => by
    subst h
    exact ⟨_, [], by simp [vi64_drop], ⟨rfl, by simp [h']⟩, rfl⟩
  | .agg l, _, n, h, _, hn => RL_drop l _ n h
  | .any, _, _, _, h1, h2 | .raw _, _, _, _, h1, h2 | .int _ _, _, _, _, h1, h2 | .u8 _, _, _, _, h1, h2 | .u32 _, _, _, _, h1, h2 | .u64 _, _, _, _, h1, h2 | .bool _, _, _, _, h1, h2 | .str _, _, _, _, h1, h2
  | .ptr _ _, _, _, _, h1, h2 | .pix _ _ _ _, _, _, _, h1, h2 | .sl _ _ _ _, _, _, _, h1, h2 | .vec8 _ _, _, _, _, h1, h2 | .vec _ _ _, _, _, _, h1, h2 | .vecr _ _ _ _, _, _, _, h1, h2 | .slv _ _ _ _, _, _, _, h1, h2 | .vp _ _, _, _, _, h1, h2 | .vpx _ _ _ _, _, _, _, h1, h2
  | .fn _ _ _, _, _, _, h1, h2 | .tup _, _, _, _, h1, h2 => by simp only [szA] at h2; omega
theorem RL_drop : ∀ (c : List AV) (vs : List Value) (n : Nat), RL ρ I w c vs → RL ρ I w (dropL c n) (vs.drop n)
  | [], _, n, h => by cases h; simp [dropL, RL]
  | a :: as, _, n, ⟨ys, zs, h0, h1, h2⟩ => by
    subst h0
    have hl := R_len a ys h1
    simp only [dropL]
    cases hn : n == 0 with
    | true =>
      simp only [cond_true]
      obtain rfl : n = 0 := by simpa using hn
      exact ⟨ys, zs, by simp, h1, h2⟩
    | false =>
      simp only [cond_false]
      have hp := beq0_false hn
      cases hs : leB (szA a) n with
      | true =>
        simp only [cond_true]
        have hle := leB_iff.1 hs
        have := RL_drop as zs (n - szA a) h2
        rw [List.drop_append, List.drop_eq_nil_of_le (by omega), List.nil_append, hl]
        exact this
      | false =>
        simp only [cond_false]
        have hlt := leB_false hs
        rw [List.drop_append_of_le_length (by omega)]
        exact RL_append (R_split a ys n h1 hp hlt) h2
end

mutual
theorem R_first : ∀ (a : AV) (ys : List Value) (n : Nat), R ρ I w a ys → 0 < n → n < szA a → RL ρ I w (firstA a n) (ys.take n)
  | .b8 m l, _, n, ⟨h, h'⟩, _, hn => by
    subst h
    simp only [szA] at hn
    exact ⟨_, [], by simp [v8_take], ⟨rfl, by simp [h']; omega⟩, rfl⟩
  | .w32 m l, _, n, ⟨h, h'⟩, _, hn => by
    subst h
    simp only [szA] at hn
    exact ⟨_, [], by simp [v32_take], ⟨rfl, by simp [h']; omega⟩, rfl⟩
  | .w64 m l, _, n, ⟨h, h'⟩, _, hn => by
    subst h
    simp only [szA] at hn
    exact ⟨_, [], by simp [v64_take], ⟨rfl, by simp [h']; omega⟩, rfl⟩
  | .n64 m l, _, n, ⟨h, h'⟩, _, hn => by
    subst h
    simp only [szA] at hn
    exact ⟨_, [], by simp [vi64_take], ⟨rfl, by simp [h']; omega⟩, rfl⟩
  | .agg l, _, n, h, _, hn => RL_take l _ n h
  | .any, _, _, _, h1, h2 | .raw _, _, _, _, h1, h2 | .int _ _, _, _, _, h1, h2 | .u8 _, _, _, _, h1, h2 | .u32 _, _, _, _, h1, h2 | .u64 _, _, _, _, h1, h2 | .bool _, _, _, _, h1, h2 | .str _, _, _, _, h1, h2
  | .ptr _ _, _, _, _, h1, h2 | .pix _ _ _ _, _, _, _, h1, h2 | .sl _ _ _ _, _, _, _, h1, h2 | .vec8 _ _, _, _, _, h1, h2 | .vec _ _ _, _, _, _, h1, h2 | .vecr _ _ _ _, _, _, _, h1, h2 | .slv _ _ _ _, _, _, _, h1, h2 | .vp _ _, _, _, _, h1, h2 | .vpx _ _ _ _, _, _, _, h1, h2
  | .fn _ _ _, _, _, _, h1, h2 | .tup _, _, _, _, h1, h2 => by simp only [szA] at h2; omega
theorem RL_take : ∀ (c : List AV) (vs : List Value) (n : Nat), RL ρ I w c vs → RL ρ I w (takeL c n) (vs.take n)
  | [], _, n, h => by cases h; simp [takeL, RL]
  | a :: as, _, n, ⟨ys, zs, h0, h1, h2⟩ => by
    subst h0
    have hl := R_len a ys h1
    simp only [takeL]
    cases hn : n == 0 with
    | true =>
      simp only [cond_true]
      obtain rfl : n = 0 := by simpa using hn
      simp [RL]
    | false =>
      simp only [cond_false]
      have hp := beq0_false hn
      cases hs : leB (szA a) n with
      | true =>
        simp only [cond_true]
        have hle := leB_iff.1 hs
        rw [List.take_append, List.take_of_length_le (by omega), hl]
        exact ⟨ys, _, rfl, h1, RL_take as zs (n - szA a) h2⟩
      | false =>
        simp only [cond_false]
        have hlt := leB_false hs
        rw [List.take_append_of_le_length (by omega)]
        exact R_first a ys n h1 hp hlt
end

mutual
theorem headA_sound : ∀ (a : AV) (ys : List Value) (v : AV), R ρ I w a ys → headA a = some v → ∃ x xs, ys = x :: xs ∧ rel ρ I w v x ∧ isAg v = false
  | .b8 m l, _, v, ⟨h, h'⟩, hv => by
    subst h
    simp only [headA] at hv
    cases hm : m == 0 <;> rw [hm] at hv <;> simp only [cond_true, cond_false, reduceCtorEq, Option.some.injEq] at hv
    subst hv
    have := beq0_false hm
    match l, h' with
    | [], h' => simp at h'; omega
    | x :: l, _ => exact ⟨_, _, rfl, rel_u8.2 rfl, rfl⟩
  | .w32 m l, _, v, ⟨h, h'⟩, hv => by
    subst h
    simp only [headA] at hv
    cases hm : m == 0 <;> rw [hm] at hv <;> simp only [cond_true, cond_false, reduceCtorEq, Option.some.injEq] at hv
    subst hv
    have := beq0_false hm
    match l, h' with
    | [], h' => simp at h'; omega
    | x :: l, _ => exact ⟨_, _, rfl, rel_u32.2 rfl, rfl⟩
  | .w64 m l, _, v, ⟨h, h'⟩, hv => by
    subst h
    simp only [headA] at hv
    cases hm : m == 0 <;> rw [hm] at hv <;> simp only [cond_true, cond_false, reduceCtorEq, Option.some.injEq] at hv
    subst hv
    have := beq0_false hm
    match l, h' with
    | [], h' => simp at h'; omega
    | x :: l, _ => exact ⟨_, _, rfl, rel_u64.2 rfl, rfl⟩
  | .n64 m l, _, v, ⟨h, h'⟩, hv => by
    subst h
    simp only [headA] at hv
    cases hm : m == 0 <;> rw [hm] at hv <;> simp only [cond_true, cond_false, reduceCtorEq, Option.some.injEq] at hv
    subst hv
    have := beq0_false hm
    match l, h' with
    | [], h' => simp at h'; omega
    | x :: l, _ => exact ⟨_, _, rfl, rel_int.2 rfl, rfl⟩
  | .agg l, _, v, h, hv => headL_sound l _ v h (by simpa only [headA] using hv)
  | .any, _, _, h, hv | .raw _, _, _, h, hv | .int _ _, _, _, h, hv | .u8 _, _, _, h, hv | .u32 _, _, _, h, hv | .u64 _, _, _, h, hv | .bool _, _, _, h, hv | .str _, _, _, h, hv
  | .ptr _ _, _, _, h, hv | .pix _ _ _ _, _, _, h, hv | .sl _ _ _ _, _, _, h, hv | .vec8 _ _, _, _, h, hv | .vec _ _ _, _, _, h, hv | .vecr _ _ _ _, _, _, h, hv | .slv _ _ _ _, _, _, h, hv | .vp _ _, _, _, h, hv | .vpx _ _ _ _, _, _, h, hv
  | .fn _ _ _, _, _, h, hv | .tup _, _, _, h, hv => by
    simp only [headA, Option.some.injEq] at hv
    subst hv
    obtain ⟨x, rfl, hr⟩ := R_one rfl h
    exact ⟨x, [], rfl, hr, rfl⟩
theorem headL_sound : ∀ (c : List AV) (vs : List Value) (v : AV), RL ρ I w c vs → headL c = some v → ∃ x xs, vs = x :: xs ∧ rel ρ I w v x ∧ isAg v = false
  | [], _, _, _, hv => by simp [headL] at hv
  | a :: as, _, v, ⟨ys, zs, h0, h1, h2⟩, hv => by
    subst h0
    obtain ⟨x, xs, rfl, hr, hi⟩ := headA_sound a ys v h1 (by simpa only [headL] using hv)
    exact ⟨x, xs ++ zs, rfl, hr, hi⟩
end

theorem mkAg_sound {l : List AV} {cs : List Value} (h : RL ρ I w l cs) : rel ρ I w (mkAg l) (.agg cs.toArray) := by
  have one : ∀ a, RL ρ I w [a] cs → R ρ I w a cs := by
    rintro a ⟨ys, zs, h0, h1, h2⟩
    cases h2
    simpa [h0] using h1
  unfold mkAg
  split
  · exact ⟨_, rfl, one _ h⟩
  · exact ⟨_, rfl, one _ h⟩
  · exact ⟨_, rfl, one _ h⟩
  · exact ⟨_, rfl, one _ h⟩
  · exact ⟨_, rfl, one _ h⟩
  · exact ⟨_, rfl, h⟩

theorem drop_head {vs : List Value} {off : Nat} {x : Value} {xs : List Value} (h : vs.drop off = x :: xs) : vs[off]? = some x := by
  have := congrArg (·[0]?) h
  simpa using this

/-- A part of a row. -/
theorem cut1_sound {ti : TI} {c : List AV} {vs : List Value} {off : Nat} {p : Bool × AV} (h : RL ρ I w c vs) (hc : cut1 ti c off = some p) (hp : p.1 = true) :
    (ti.kind.isAgg = true → off + ti.size ≤ vs.length ∧ rel ρ I w p.2 (.agg ((vs.drop off).take ti.size).toArray)) ∧
    (ti.kind.isAgg = false → ∃ x, vs[off]? = some x ∧ rel ρ I w p.2 x ∧ isAg p.2 = false) := by
  unfold cut1 at hc
  cases hk : ti.kind.isAgg with
  | true =>
    rw [hk] at hc
    simp only [cond_true, Option.some.injEq] at hc
    subst hc
    refine ⟨fun _ => ⟨?_, mkAg_sound (RL_take _ _ _ (RL_drop _ _ _ h))⟩, fun h => (by cases h)⟩
    have := leB_iff.1 hp
    rwa [RL_len _ _ h]
  | false =>
    rw [hk] at hc
    simp only [cond_false] at hc
    split at hc
    · rename_i a ha
      simp only [Option.some.injEq] at hc
      subst hc
      obtain ⟨x, xs, h1, h2, h3⟩ := headL_sound _ _ _ (RL_drop c vs off h) ha
      exact ⟨fun h => (by cases h), fun _ => ⟨x, drop_head h1, h2, h3⟩⟩
    · simp at hc

theorem RL_head {a : AV} {as : List AV} {vs : List Value} (h : RL ρ I w (a :: as) vs) : ∃ ys zs, vs = ys ++ zs ∧ R ρ I w a ys ∧ RL ρ I w as zs := RL_cons.1 h

/-- A cell at a place that may be a variable. -/
theorem cellX_sound {c : List AV} {vs : List Value} {off n : Nat} {i : Int} {v : AV} (h : RL ρ I w c vs) (hi : 0 ≤ i ∧ i < n) (hc : cellX c off n i = some v) :
    ∃ x, vs[off + i.toNat]? = some x ∧ rel ρ I w v x ∧ isAg v = false := by
  have hd := RL_drop c vs off h
  have key : ∀ (ys zs : List Value) (x : Value), vs.drop off = ys ++ zs → ys[i.toNat]? = some x → vs[off + i.toNat]? = some x := by
    intro ys zs x h1 h2
    rw [← List.getElem?_drop, h1, List.getElem?_append_left (List.getElem?_eq_some_iff.1 h2).1, h2]
  unfold cellX at hc
  split at hc
  · rename_i m l as hh
    rw [hh] at hd
    obtain ⟨ys, zs, h0, ⟨rfl, h1⟩, _⟩ := RL_head hd
    cases hn : leB n m <;> rw [hn] at hc <;> simp only [cond_true, cond_false, reduceCtorEq, Option.some.injEq] at hc
    subst hc
    have := leB_iff.1 hn
    exact ⟨_, key _ _ _ h0 (v8_get (by omega)), rel_u8.2 rfl, rfl⟩
  · rename_i m l as hh
    rw [hh] at hd
    obtain ⟨ys, zs, h0, ⟨rfl, h1⟩, _⟩ := RL_head hd
    cases hn : leB n m <;> rw [hn] at hc <;> simp only [cond_true, cond_false, reduceCtorEq, Option.some.injEq] at hc
    subst hc
    have := leB_iff.1 hn
    exact ⟨_, key _ _ _ h0 (v32_get (by omega)), rel_u32.2 rfl, rfl⟩
  · rename_i m l as hh
    rw [hh] at hd
    obtain ⟨ys, zs, h0, ⟨rfl, h1⟩, _⟩ := RL_head hd
    cases hn : leB n m <;> rw [hn] at hc <;> simp only [cond_true, cond_false, reduceCtorEq, Option.some.injEq] at hc
    subst hc
    have := leB_iff.1 hn
    exact ⟨_, key _ _ _ h0 (v64_get (by omega)), rel_u64.2 rfl, rfl⟩
  · rename_i m l as hh
    rw [hh] at hd
    obtain ⟨ys, zs, h0, ⟨rfl, h1⟩, _⟩ := RL_head hd
    cases hn : leB n m <;> rw [hn] at hc <;> simp only [cond_true, cond_false, reduceCtorEq, Option.some.injEq] at hc
    subst hc
    have := leB_iff.1 hn
    exact ⟨_, key _ _ _ h0 (vi64_get (by omega)), rel_int.2 rfl, rfl⟩
  · obtain ⟨x, xs, h1, h2, h3⟩ := headL_sound _ _ _ (RL_drop c vs (off + i.toNat) h) hc
    exact ⟨x, drop_head h1, h2, h3⟩

theorem cellX1_sound {c : List AV} {vs : List Value} {off n : Nat} {i : Int} {p : Bool × AV} (h : RL ρ I w c vs) (hi : 0 ≤ i ∧ i < n) (hc : cellX1 c off n i = some p) (hp : p.1 = true) :
    ∃ x, vs[off + i.toNat]? = some x ∧ rel ρ I w p.2 x := by
  unfold cellX1 at hc
  split at hc
  · simp only [Option.some.injEq] at hc
    subst hc
    have := leB_iff.1 hp
    obtain ⟨ys, zs, rfl, ⟨rfl, h1⟩, h2⟩ := RL_head h
    cases h2
    rw [List.append_nil, ofs_eq]
    exact ⟨_, v8_get (by omega), rel_u8.2 rfl⟩
  · simp only [Option.some.injEq] at hc
    subst hc
    have := leB_iff.1 hp
    obtain ⟨ys, zs, rfl, ⟨rfl, h1⟩, h2⟩ := RL_head h
    cases h2
    rw [List.append_nil, ofs_eq]
    exact ⟨_, v32_get (by omega), rel_u32.2 rfl⟩
  · simp only [Option.some.injEq] at hc
    subst hc
    have := leB_iff.1 hp
    obtain ⟨ys, zs, rfl, ⟨rfl, h1⟩, h2⟩ := RL_head h
    cases h2
    rw [List.append_nil, ofs_eq]
    exact ⟨_, v64_get (by omega), rel_u64.2 rfl⟩
  · simp only [Option.some.injEq] at hc
    subst hc
    have := leB_iff.1 hp
    obtain ⟨ys, zs, rfl, ⟨rfl, h1⟩, h2⟩ := RL_head h
    cases h2
    rw [List.append_nil, ofs_eq]
    exact ⟨_, vi64_get (by omega), rel_int.2 rfl⟩
  · split at hc
    · rename_i v hv
      simp only [Option.some.injEq] at hc
      subst hc
      obtain ⟨x, h1, h2, _⟩ := cellX_sound h hi hv
      exact ⟨x, h1, h2⟩
    · simp at hc

def spliceV (c : List Value) (off : Nat) (l : List Value) : List Value := c.take off ++ (l ++ c.drop (off + l.length))

theorem length_spliceV {c l : List Value} {off : Nat} (h : off + l.length ≤ c.length) : (spliceV c off l).length = c.length := by
  simp [spliceV]; omega
theorem spliceV_left {ys zs xs : List Value} {off : Nat} (h : off + xs.length ≤ ys.length) : spliceV (ys ++ zs) off xs = spliceV ys off xs ++ zs := by
  simp only [spliceV]
  rw [List.take_append_of_le_length (by omega), List.drop_append_of_le_length (by omega)]
  simp
theorem spliceV_right {ys zs xs : List Value} {off : Nat} (h : ys.length ≤ off) : spliceV (ys ++ zs) off xs = ys ++ spliceV zs (off - ys.length) xs := by
  simp only [spliceV]
  rw [List.take_append, List.take_of_length_le (by omega), List.drop_append, List.drop_eq_nil_of_le (by omega), List.nil_append, List.append_assoc,
    show off + xs.length - ys.length = off - ys.length + xs.length by omega]
theorem spliceV_one {c : List Value} {off : Nat} (x : Value) (h : off < c.length) : spliceV c off [x] = c.set off x := by
  rw [List.set_eq_take_append_cons_drop, if_pos h]
  simp [spliceV]

theorem setSeg_sound {a : AV} {ys : List Value} {off : Nat} {v r : AV} {xs : List Value} (h : R ρ I w a ys) (hv : R ρ I w v xs) (hs : setSeg a off v = some r) (hle : off + szA v ≤ szA a) :
    R ρ I w r (spliceV ys off xs) := by
  have hl := R_len _ _ h
  have hx := R_len _ _ hv
  unfold setSeg at hs
  split at hs <;> simp only [Option.some.injEq, reduceCtorEq] at hs <;> subst hs
  · obtain ⟨rfl, h1⟩ := h
    cases hv
    simp only [szA] at hle
    rw [spliceV_one _ (by rw [length_v8]; omega), v8_set]
    exact ⟨rfl, by simpa using h1⟩
  · obtain ⟨rfl, h1⟩ := h
    cases hv
    simp only [szA] at hle
    rw [spliceV_one _ (by rw [length_v32]; omega), v32_set]
    exact ⟨rfl, by simpa using h1⟩
  · obtain ⟨rfl, h1⟩ := h
    cases hv
    simp only [szA] at hle
    rw [spliceV_one _ (by rw [length_v64]; omega), v64_set]
    exact ⟨rfl, by simpa using h1⟩
  · obtain ⟨rfl, h1⟩ := h
    obtain ⟨rfl, h2⟩ := hv
    simp only [szA] at hle
    refine ⟨by simp only [spliceV, v8_take, v8_drop, v8_append, length_v8, h2], by simp; omega⟩
  · obtain ⟨rfl, h1⟩ := h
    obtain ⟨rfl, h2⟩ := hv
    simp only [szA] at hle
    refine ⟨by simp only [spliceV, v64_take, v64_drop, v64_append, length_v64, h2], by simp; omega⟩
  · obtain ⟨rfl, h1⟩ := h
    obtain ⟨rfl, h2⟩ := hv
    simp only [szA] at hle
    refine ⟨by simp only [spliceV, v32_take, v32_drop, v32_append, length_v32, h2], by simp; omega⟩

/-- Rows of numbers, split at both ends. -/
theorem seg_sound {a : AV} {ys : List Value} {off : Nat} {v : AV} {xs : List Value} (h : R ρ I w a ys) (hv : R ρ I w v xs) (hle : off + szA v ≤ szA a) (hd : ∀ n, RL ρ I w (splitA a n) (ys.drop n)) (hf : ∀ n, n ≤ szA a → RL ρ I w (firstA a n) (ys.take n)) :
    R ρ I w (match setSeg a off v with | some r => r | none => .agg (firstA a off ++ (v :: splitA a (off + szA v)))) (spliceV ys off xs) := by
  split
  · rename_i r hr; exact setSeg_sound h hv hr hle
  · have hx := R_len _ _ hv
    simp only [spliceV, hx]
    exact RL_append (hf off (by omega)) (RL_cons.2 ⟨xs, _, rfl, hv, hd _⟩)

mutual
theorem R_set : ∀ (a : AV) (ys : List Value) (off : Nat) (v : AV) (xs : List Value), R ρ I w a ys → R ρ I w v xs → off + szA v ≤ szA a → 0 < szA v → isAg a = true → R ρ I w (setA a off v) (spliceV ys off xs)
  | .agg l, ys, off, v, xs, h, hv, hle, h0, _ => by
    simp only [setA]
    exact RL_set l ys off v xs h hv (by simpa only [szA] using hle) h0
  | .b8 m l, _, off, v, xs, h, hv, hle, _, _ => by
    obtain ⟨rfl, h'⟩ := h
    exact seg_sound (a := .b8 m l) ⟨rfl, h'⟩ hv hle (fun n => ⟨_, [], by simp [v8_drop], ⟨rfl, by simp [h']⟩, rfl⟩) (fun n hn => ⟨_, [], by simp [v8_take], ⟨rfl, by simp only [szA] at hn; simp [h']; omega⟩, rfl⟩)
  | .w32 m l, _, off, v, xs, h, hv, hle, _, _ => by
    obtain ⟨rfl, h'⟩ := h
    exact seg_sound (a := .w32 m l) ⟨rfl, h'⟩ hv hle (fun n => ⟨_, [], by simp [v32_drop], ⟨rfl, by simp [h']⟩, rfl⟩) (fun n hn => ⟨_, [], by simp [v32_take], ⟨rfl, by simp only [szA] at hn; simp [h']; omega⟩, rfl⟩)
  | .w64 m l, _, off, v, xs, h, hv, hle, _, _ => by
    obtain ⟨rfl, h'⟩ := h
    exact seg_sound (a := .w64 m l) ⟨rfl, h'⟩ hv hle (fun n => ⟨_, [], by simp [v64_drop], ⟨rfl, by simp [h']⟩, rfl⟩) (fun n hn => ⟨_, [], by simp [v64_take], ⟨rfl, by simp only [szA] at hn; simp [h']; omega⟩, rfl⟩)
  | .n64 m l, _, off, v, xs, h, hv, hle, _, _ => by
    obtain ⟨rfl, h'⟩ := h
    exact seg_sound (a := .n64 m l) ⟨rfl, h'⟩ hv hle (fun n => ⟨_, [], by simp [vi64_drop], ⟨rfl, by simp [h']⟩, rfl⟩) (fun n hn => ⟨_, [], by simp [vi64_take], ⟨rfl, by simp only [szA] at hn; simp [h']; omega⟩, rfl⟩)
  | .any, _, _, _, _, _, _, _, _, h | .raw _, _, _, _, _, _, _, _, _, h | .int _ _, _, _, _, _, _, _, _, _, h | .u8 _, _, _, _, _, _, _, _, _, h | .u32 _, _, _, _, _, _, _, _, _, h | .u64 _, _, _, _, _, _, _, _, _, h | .bool _, _, _, _, _, _, _, _, _, h | .str _, _, _, _, _, _, _, _, _, h
  | .ptr _ _, _, _, _, _, _, _, _, _, h | .pix _ _ _ _, _, _, _, _, _, _, _, _, h | .sl _ _ _ _, _, _, _, _, _, _, _, _, h | .vec8 _ _, _, _, _, _, _, _, _, _, h | .vec _ _ _, _, _, _, _, _, _, _, _, h | .vp _ _, _, _, _, _, _, _, _, _, h | .vpx _ _ _ _, _, _, _, _, _, _, _, _, h
  | .fn _ _ _, _, _, _, _, _, _, _, _, h | .tup _, _, _, _, _, _, _, _, _, h => by simp [isAg] at h
theorem RL_set : ∀ (c : List AV) (vs : List Value) (off : Nat) (v : AV) (xs : List Value), RL ρ I w c vs → R ρ I w v xs → off + szA v ≤ szL c → 0 < szA v → RL ρ I w (setL c off v) (spliceV vs off xs)
  | [], vs, off, v, xs, h, hv, hle, _ => by
    cases h
    have hx := R_len _ _ hv
    simp only [szL] at hle
    have : xs = [] := List.eq_nil_of_length_eq_zero (by omega)
    subst this
    simp [setL, spliceV, RL]
  | a :: as, _, off, v, xs, ⟨ys, zs, h0, h1, h2⟩, hv, hle, hz => by
    subst h0
    have hl := R_len a ys h1
    have hx := R_len v xs hv
    simp only [szL] at hle
    simp only [setL]
    cases hs : leB (szA a) off with
    | true =>
      simp only [cond_true]
      have hle' := leB_iff.1 hs
      rw [spliceV_right (by omega), hl]
      exact RL_cons.2 ⟨ys, _, rfl, h1, RL_set as zs (off - szA a) v xs h2 hv (by omega) hz⟩
    | false =>
      simp only [cond_false]
      have hlt := leB_false hs
      cases ht : leB (off + szA v) (szA a) with
      | true =>
        simp only [cond_true]
        have hin := leB_iff.1 ht
        rw [spliceV_left (by omega)]
        cases he : (off == 0 && szA v == szA a) with
        | true =>
          simp only [cond_true]
          simp only [Bool.and_eq_true, beq_iff_eq] at he
          obtain ⟨rfl, he⟩ := he
          have : spliceV ys 0 xs = xs := by simp [spliceV]; omega
          rw [this]
          exact RL_cons.2 ⟨xs, zs, rfl, hv, h2⟩
        | false =>
          simp only [cond_false]
          refine RL_cons.2 ⟨_, zs, rfl, ?_, h2⟩
          cases hi : isAg a with
          | true => exact R_set a ys off v xs h1 hv hin hz hi
          | false =>
            exfalso
            obtain ⟨x, rfl, _⟩ := R_one hi h1
            simp only [List.length_singleton] at hl
            simp only [Bool.and_eq_false_iff, beq_eq_false_iff_ne] at he
            have hsv : szA v = 0 := by omega
            have : off = 0 := by omega
            omega
      | false =>
        simp only [cond_false]
        have hout := leB_false ht
        have e : spliceV (ys ++ zs) off xs = ys.take off ++ (xs ++ zs.drop (off + szA v - szA a)) := by
          simp only [spliceV, hx]
          rw [List.take_append_of_le_length (by omega), List.drop_append, List.drop_eq_nil_of_le (by omega), List.nil_append, hl]
        rw [e]
        refine RL_append ?_ (RL_cons.2 ⟨xs, _, rfl, hv, RL_drop as zs _ h2⟩)
        cases ho : off == 0 with
        | true =>
          obtain rfl : off = 0 := by simpa using ho
          simp [RL]
        | false => exact R_first a ys off h1 (beq0_false ho) hlt
end

end
end Go.V

/- The abstract layer (second state), part E: addresses, loads, parts, comparisons, values of parts. -/
set_option linter.unusedSimpArgs false
set_option linter.unusedVariables false
namespace Go.V
open Go

section
variable {P : Program} {G : Env P} {ρ : Rho} {I : Imm} {H : Heap} {w : World}

theorem eat8_sound : ∀ {l : List UInt8} {xs ys : List Value}, eat8 l xs = some ys → xs = v8 l ++ ys
  | [], _, _, h => by simp only [eat8, Option.some.injEq] at h; subst h; rfl
  | x :: l, xs, ys, h => by
    unfold eat8 at h
    split at h
    · rename_i hx; simp at hx
    · rename_i x' l' n xs hx
      simp only [List.cons.injEq] at hx
      obtain ⟨rfl, rfl⟩ := hx
      split at h
      · rename_i hn; subst hn; rw [eat8_sound h]; rfl
      · simp at h
    · simp at h
theorem eat32_sound : ∀ {l : List UInt32} {xs ys : List Value}, eat32 l xs = some ys → xs = v32 l ++ ys
  | [], _, _, h => by simp only [eat32, Option.some.injEq] at h; subst h; rfl
  | x :: l, xs, ys, h => by
    unfold eat32 at h
    split at h
    · rename_i hx; simp at hx
    · rename_i x' l' n xs hx
      simp only [List.cons.injEq] at hx
      obtain ⟨rfl, rfl⟩ := hx
      split at h
      · rename_i hn; subst hn; rw [eat32_sound h]; rfl
      · simp at h
    · simp at h
theorem eat64_sound : ∀ {l : List UInt64} {xs ys : List Value}, eat64 l xs = some ys → xs = v64 l ++ ys
  | [], _, _, h => by simp only [eat64, Option.some.injEq] at h; subst h; rfl
  | x :: l, xs, ys, h => by
    unfold eat64 at h
    split at h
    · rename_i hx; simp at hx
    · rename_i x' l' n xs hx
      simp only [List.cons.injEq] at hx
      obtain ⟨rfl, rfl⟩ := hx
      split at h
      · rename_i hn; subst hn; rw [eat64_sound h]; rfl
      · simp at h
    · simp at h

mutual
theorem eat_sound : ∀ (a : AV) {xs ys : List Value}, eat a xs = some ys → ∃ zs, xs = zs ++ ys ∧ ∀ ρ I w, R ρ I w a zs
  | .int k n, xs, ys, h => by
    simp only [eat] at h
    split at h
    · rename_i k' n' xs
      split at h
      · rename_i hk; obtain ⟨rfl, rfl⟩ := hk
        simp only [Option.some.injEq] at h; subst h
        exact ⟨[_], rfl, fun _ _ _ => rfl⟩
      · simp at h
    · simp at h
  | .u8 x, xs, ys, h => by
    rw [eat] at h; exact ⟨v8 [x], eat8_sound h, fun _ _ _ => rfl⟩
  | .u32 x, xs, ys, h => by
    rw [eat] at h; exact ⟨v32 [x], eat32_sound h, fun _ _ _ => rfl⟩
  | .u64 x, xs, ys, h => by
    rw [eat] at h; exact ⟨v64 [x], eat64_sound h, fun _ _ _ => rfl⟩
  | .bool b, xs, ys, h => by
    simp only [eat] at h
    split at h
    · rename_i b' xs
      split at h
      · rename_i hk; subst hk
        simp only [Option.some.injEq] at h; subst h
        exact ⟨[_], rfl, fun _ _ _ => rfl⟩
      · simp at h
    · simp at h
  | .str s, xs, ys, h => by
    simp only [eat] at h
    split at h
    · rename_i t xs
      split at h
      · rename_i hk; subst hk
        simp only [Option.some.injEq] at h; subst h
        exact ⟨[_], rfl, fun _ _ _ => rfl⟩
      · simp at h
    · simp at h
  | .b8 n l, xs, ys, h => by
    rw [eat] at h
    split at h
    · rename_i hn; exact ⟨v8 l, eat8_sound h, fun _ _ _ => ⟨rfl, hn⟩⟩
    · simp at h
  | .w32 n l, xs, ys, h => by
    rw [eat] at h
    split at h
    · rename_i hn; exact ⟨v32 l, eat32_sound h, fun _ _ _ => ⟨rfl, hn⟩⟩
    · simp at h
  | .w64 n l, xs, ys, h => by
    rw [eat] at h
    split at h
    · rename_i hn; exact ⟨v64 l, eat64_sound h, fun _ _ _ => ⟨rfl, hn⟩⟩
    · simp at h
  | .vec8 f l, xs, ys, h => by
    simp only [eat] at h
    split at h
    · simp only [Option.some.injEq] at h; subst h
      exact ⟨[_], rfl, fun _ _ _ => ⟨_, rfl, none, 0, rfl, Nat.le_refl _, fun _ => rfl, .inl rfl⟩⟩
    · simp at h
  | .vec f k l, xs, ys, h => by
    simp only [eat] at h
    split at h
    · simp only [Option.some.injEq] at h; subst h
      exact ⟨[_], rfl, fun _ _ _ => ⟨_, rfl, fun _ h => by simp at h, [], rfl, none, 0, rfl, Nat.le_refl _, fun _ => rfl, .inl rfl⟩⟩
    · simp at h
  | .raw v, xs, ys, h => by
    simp only [eat] at h
    split at h <;> simp only [Option.some.injEq, reduceCtorEq] at h <;> subst h <;> exact ⟨[_], rfl, fun _ _ _ => rfl⟩
  | .agg l, xs, ys, h => by
    simp only [eat] at h
    exact eatL_sound l h
  | .any, _, _, h | .ptr _ _, _, _, h | .pix _ _ _ _, _, _, h | .sl _ _ _ _, _, _, h | .vp _ _, _, _, h | .vpx _ _ _ _, _, _, h | .fn _ _ _, _, _, h | .tup _, _, _, h => by simp [eat] at h
theorem eatL_sound : ∀ (l : List AV) {xs ys : List Value}, eatL l xs = some ys → ∃ zs, xs = zs ++ ys ∧ ∀ ρ I w, RL ρ I w l zs
  | [], xs, ys, h => by simp only [eatL, Option.some.injEq] at h; subst h; exact ⟨[], rfl, fun _ _ _ => rfl⟩
  | a :: as, xs, ys, h => by
    simp only [eatL] at h
    split at h
    · rename_i zs hz
      obtain ⟨us, rfl, h1⟩ := eat_sound a hz
      obtain ⟨vs, rfl, h2⟩ := eatL_sound as h
      exact ⟨us ++ vs, by simp, fun ρ I w => ⟨us, vs, rfl, h1 ρ I w, h2 ρ I w⟩⟩
    · simp at h
end
theorem isNil_some {o : Option (List Value)} (h : isNil o = true) : o = some [] := by
  unfold isNil at h; split at h <;> simp_all
theorem chkV_sound {z : AV} {v : Value} (h : chkV z v = true) (ρ : Rho) (I : Imm) (w : World) : rel ρ I w z v := by
  unfold chkV at h
  split at h
  · rename_i hz
    split at h
    · rename_i cs
      obtain ⟨zs, h1, h2⟩ := eat_sound z (isNil_some h)
      exact (rel_ag hz).2 ⟨cs, rfl, by rw [h1]; simpa using h2 ρ I w⟩
    · simp at h
  · rename_i hz
    have hz' : isAg z = false := by simpa using hz
    obtain ⟨zs, h1, h2⟩ := eat_sound z (isNil_some h)
    simp only [List.append_nil] at h1
    obtain ⟨x, hx, hr⟩ := R_one hz' (h2 ρ I w)
    rw [hx] at h1
    simp only [List.cons.injEq, and_true] at h1
    subst h1; exact hr

theorem cell_of_heap {b o : Nat} {cs : List Value} {el : TypeId} {fr : Nat × Nat} (h : w.heap[b]? = some (.cells cs.toArray el fr)) : w.cell? ⟨b, o, none⟩ = cs[o]? := by
  simp [World.cell?, h]
theorem addr_add (b o n : Nat) : (⟨b, o, none⟩ : Addr).add n = ⟨b, o + n, none⟩ := by
  unfold Addr.add; split <;> simp_all

theorem entCells_live {id : Nat} {l : List AV} (h : entCells H id = some l) : ∃ e, H[id]? = some e ∧ e.live = true ∧ e.cells = l ∧ ((∃ f, e = .blk l f) ∨ e.grows = true) := by
  unfold entCells at h
  split at h <;> simp only [Option.some.injEq, reduceCtorEq] at h <;> subst h <;> rename_i hh
  · exact ⟨_, hh, rfl, rfl, .inl ⟨_, rfl⟩⟩
  · exact ⟨_, hh, rfl, rfl, .inr rfl⟩
  · exact ⟨_, hh, rfl, rfl, .inr rfl⟩

/-- The cells of an entry that has a block. -/
theorem ent_block {g : Nat → Option (List AV)} (c : Conc g ρ I H w) {id b : Nat} {l : List AV} (h : entCells H id = some l) (hb : ρ id = some (some b)) :
    ∃ el fr cs rest, w.heap[b]? = some (.cells (List.toArray (cs ++ rest)) el fr) ∧ RL ρ I w l cs ∧ clear fr (cs ++ rest).length ∧ ((∃ f, H[id]? = some (.blk l f)) → rest = []) := by
  obtain ⟨e, he, h1, rfl, h2⟩ := entCells_live h
  rcases h2 with ⟨f, h2⟩ | h2
  · obtain ⟨b', el, fr, cs, g1, g2, g3, g4⟩ := c.blk id _ f (by rw [he, h2])
    obtain rfl : b = b' := by rw [hb] at g1; simpa using g1
    exact ⟨el, fr, cs, [], by simpa using g2, g3, by simpa using g4, fun _ => rfl⟩
  · obtain ⟨_, g1 | ⟨b', el, fr, cs, rest, g1, g2, g3, g4⟩⟩ := c.grow id e he h2
    · rw [hb] at g1; simp at g1
    · obtain rfl : b = b' := by rw [hb] at g1; simpa using g1
      refine ⟨el, fr, cs, rest, g2, g3, g4, fun ⟨f, hf⟩ => ?_⟩
      rw [he] at hf
      simp only [Option.some.injEq] at hf
      rw [hf] at h2; simp [Ent.grows] at h2

theorem ent_cells {g : Nat → Option (List AV)} (c : Conc g ρ I H w) {id b : Nat} {l : List AV} (h : entCells H id = some l) (hb : ρ id = some (some b)) :
    ∃ vs, RL ρ I w l vs ∧ ∀ (i : Nat) (y : Value), vs[i]? = some y → w.cell? ⟨b, i, none⟩ = some y := by
  obtain ⟨el, fr, cs, rest, g1, g2, _⟩ := ent_block c h hb
  refine ⟨cs, g2, fun i y hy => ?_⟩
  have hi : i < cs.length := (List.getElem?_eq_some_iff.1 hy).1
  rw [cell_of_heap g1, List.getElem?_append_left hi, hy]

/-- The cells behind an address. -/
theorem cellsAt_sound {g : Nat → Option (List AV)} (c : Conc g ρ I H w) {a : AV} {x : Value} (r : rel ρ I w a x) {l : List AV} {off : Nat} (h : cellsAt H a = some (l, off)) :
    ∃ b base vs, x = .pointer (some ⟨b, base + off, none⟩) ∧ RL ρ I w l vs ∧ (∀ (i : Nat) (y : Value), vs[i]? = some y → w.cell? ⟨b, base + i, none⟩ = some y) := by
  cases a <;> simp only [cellsAt, reduceCtorEq] at h
  case ptr id o =>
    obtain ⟨b, hb, rfl⟩ := rel_ptr.1 r
    split at h
    · rename_i l' hl
      simp only [Option.some.injEq, Prod.mk.injEq] at h
      obtain ⟨rfl, rfl⟩ := h
      obtain ⟨vs, h1, h2⟩ := ent_cells c hl hb
      exact ⟨b, 0, vs, by simp, h1, fun i y hy => by simpa using h2 i y hy⟩
    · simp at h
  case vp cells i =>
    obtain ⟨vs, g1, b, base, rfl, g2⟩ := rel_vp.1 r
    simp only [Option.some.injEq, Prod.mk.injEq] at h
    obtain ⟨rfl, rfl⟩ := h
    exact ⟨b, base, vs, rfl, g1, fun i y hy => (g2 i y hy).1⟩

theorem cellsAtX_sound {g : Nat → Option (List AV)} (c : Conc g ρ I H w) {a : AV} {x : Value} (r : rel ρ I w a x) {l : List AV} {off n : Nat} {i : Int} (h : cellsAtX H a = some (l, off, n, i)) :
    ∃ b base vs, x = .pointer (some ⟨b, base + (off + i.toNat), none⟩) ∧ (0 ≤ i ∧ i < n) ∧ RL ρ I w l vs ∧ (∀ (i : Nat) (y : Value), vs[i]? = some y → w.cell? ⟨b, base + i, none⟩ = some y) := by
  cases a <;> simp only [cellsAtX, reduceCtorEq] at h
  case pix id o m j =>
    obtain ⟨b, hb, hi, rfl⟩ := rel_pix.1 r
    split at h
    · rename_i l' hl
      simp only [Option.some.injEq, Prod.mk.injEq] at h
      obtain ⟨rfl, rfl, rfl, rfl⟩ := h
      obtain ⟨vs, h1, h2⟩ := ent_cells c hl hb
      exact ⟨b, 0, vs, by simp, hi, h1, fun i y hy => by simpa using h2 i y hy⟩
    · simp at h
  case vpx cells o m j =>
    obtain ⟨hi, vs, g1, b, base, rfl, g2⟩ := rel_vpx.1 r
    simp only [Option.some.injEq, Prod.mk.injEq] at h
    obtain ⟨rfl, rfl, rfl, rfl⟩ := h
    exact ⟨b, base, vs, rfl, hi, g1, fun i y hy => (g2 i y hy).1⟩

theorem addrAdd_sound {n : Nat} {a v : AV} {x : Value} (r : rel ρ I w a x) (h : addrAdd n a = some v) :
    ∃ b o, x = .pointer (some ⟨b, o, none⟩) ∧ rel ρ I w v (.pointer (some ⟨b, o + n, none⟩)) := by
  cases a <;> simp only [addrAdd, Option.some.injEq, reduceCtorEq] at h <;> subst h
  case ptr id o =>
    obtain ⟨b, hb, rfl⟩ := rel_ptr.1 r
    exact ⟨b, o, rfl, rel_ptr.2 ⟨b, hb, rfl⟩⟩
  case vp cells i =>
    obtain ⟨vs, g1, b, base, rfl, g2⟩ := rel_vp.1 r
    exact ⟨b, base + i, rfl, rel_vp.2 ⟨vs, g1, b, base, by simp [Nat.add_assoc], g2⟩⟩

theorem ty_ok {t : Nat} {i : TI} (h : G.ty t = some i) : ∃ j d, P.info? t = some j ∧ P.underlying t = some d ∧ i.size = j.size ∧ i.bytes = j.bytes ∧ i.kind = TK.of d ∧ (∀ z, i.zero = some z → ∃ v, j.zero = some v ∧ chkV z v = true) ∧
      (i.eqf = true → P.eqGuardType P.depth t = false) ∧ (i.sok = true → strOk P t = true) := tiOk (G.tyOk t i h)

theorem run_loadAt {g : Nat → Option (List AV)} (c : Conc g ρ I H w) {t : Nat} {ti : TI} (ht : G.ty t = some ti) {a : AV} {x : Value} (r : rel ρ I w a x) {p : Bool × AV} (h : aload ti H a = some p) (hp : p.1 = true) :
    ∃ y, (Instr.loadAt t x).run P w = .ok y w ∧ rel ρ I w p.2 y := by
  obtain ⟨j, d, h1, h2, h3, _, h5, _⟩ := ty_ok ht
  unfold aload at h
  split at h
  · rename_i l off hl
    obtain ⟨b, base, vs, rfl, hr, hc⟩ := cellsAt_sound c r hl
    obtain ⟨q1, q2⟩ := cut1_sound hr h hp
    cases hk : ti.kind.isAgg with
    | true =>
      obtain ⟨hle, hv⟩ := q1 hk
      have hlen2 : ((vs.drop off).take ti.size).length = j.size := by rw [List.length_take, List.length_drop]; omega
      have hl := run_loadCells_list (P := P) w ⟨b, base + off, none⟩ ((vs.drop off).take ti.size) (fun i v hv => by
        rw [addr_add, Nat.add_assoc]
        refine hc (off + i) v ?_
        rw [List.getElem?_take] at hv
        split at hv
        · simpa using hv
        · simp at hv)
      rw [hlen2] at hl
      rw [h5] at hk
      exact ⟨.agg ((vs.drop off).take ti.size).toArray, by simp [Instr.loadAt, Instr.sureAddr, loadVar, run_isAgg h2, hk, run_sizeOf h1, hl], hv⟩
    | false =>
      obtain ⟨x, hx, hv, _⟩ := q2 hk
      rw [h5] at hk
      exact ⟨x, by simp [Instr.loadAt, Instr.sureAddr, loadVar, run_isAgg h2, hk, hc off x hx], hv⟩
  · split at h
    · rename_i l off n i hl
      cases hk : ti.kind.isAgg <;> rw [hk] at h <;> simp only [cond_true, cond_false, reduceCtorEq] at h
      obtain ⟨b, base, vs, rfl, hi, hr, hc⟩ := cellsAtX_sound c r hl
      obtain ⟨x, hx, hxr⟩ := cellX1_sound hr hi h hp
      rw [h5] at hk
      exact ⟨x, by simp [Instr.loadAt, Instr.sureAddr, loadVar, run_isAgg h2, hk, hc _ x hx], hxr⟩
    · simp at h

theorem run_part {e : Nat} {te : TI} (hte : G.ty e = some te) {l : List AV} {off : Nat} {cs : List Value} (hr : RL ρ I w l cs) {p : Bool × AV} (h : cut1 te l off = some p) (hp : p.1 = true) :
    ∃ x, (part e cs.toArray off).run P w = .ok x w ∧ rel ρ I w p.2 x := by
  obtain ⟨j, d, h1, h2, h3, _, h5, _⟩ := ty_ok hte
  obtain ⟨q1, q2⟩ := cut1_sound hr h hp
  cases hk : te.kind.isAgg with
  | true =>
    obtain ⟨hle, hv⟩ := q1 hk
    rw [h5] at hk
    refine ⟨.agg (cs.toArray.extract off (off + j.size)), by simp [part, run_isAgg h2, hk, run_sizeOf h1], ?_⟩
    rw [h3] at hv
    simpa [List.extract_eq_take_drop] using hv
  | false =>
    obtain ⟨x, hx, hv, _⟩ := q2 hk
    rw [h5] at hk
    exact ⟨x, by simp [part, run_isAgg h2, hk, hx], hv⟩

theorem run_asIntOf {a : AV} {v : Value} {k : IntKind} {n : Int} (h : a.toI = some (k, n)) (r : rel ρ I w a v) : (asIntOf v).run P w = .ok (k, n) w := by
  rw [rel_toI h r]; simp [asIntOf]

theorem elemAddr_sound {te : TI} {len : Nat} {n : Int} {a v : AV} {x : Value} (r : rel ρ I w a x) (h : elemAddr te len n a = some v) (hn : 0 ≤ n ∧ n < len) :
    ∃ b o, x = .pointer (some ⟨b, o, none⟩) ∧ rel ρ I w v (.pointer (some ⟨b, o + n.toNat * te.size, none⟩)) := by
  cases a <;> simp only [elemAddr, reduceCtorEq] at h
  case ptr id o =>
    obtain ⟨b, hb, rfl⟩ := rel_ptr.1 r
    cases hs : (te.size == 1 && !te.kind.isAgg) <;> rw [hs] at h <;> simp only [cond_true, cond_false, Option.some.injEq] at h <;> subst h
    · exact ⟨b, o, rfl, rel_ptr.2 ⟨b, hb, rfl⟩⟩
    · simp only [Bool.and_eq_true, beq_iff_eq] at hs
      exact ⟨b, o, rfl, rel_pix.2 ⟨b, hb, hn, by simp [hs.1]⟩⟩
  case vp cells i =>
    obtain ⟨vs, g1, b, base, rfl, g2⟩ := rel_vp.1 r
    cases hs : (te.size == 1 && !te.kind.isAgg) <;> rw [hs] at h <;> simp only [cond_true, cond_false, Option.some.injEq] at h <;> subst h
    · exact ⟨b, base + i, rfl, rel_vp.2 ⟨vs, g1, b, base, by simp [Nat.add_assoc], g2⟩⟩
    · simp only [Bool.and_eq_true, beq_iff_eq] at hs
      exact ⟨b, base + i, rfl, rel_vpx.2 ⟨hn, vs, g1, b, base, by simp [hs.1, Nat.add_assoc], g2⟩⟩

theorem TK.of_arr {d : TypeDesc} {n e : Nat} (h : TK.arr n e = TK.of d) : d = .array n e := by
  cases d <;> simp_all [TK.of]
theorem TK.of_slice {d : TypeDesc} {e : Nat} (h : TK.slice e = TK.of d) : d = .slice e := by
  cases d <;> simp_all [TK.of]
theorem TK.of_ptr {d : TypeDesc} {e : Nat} (h : TK.ptr e = TK.of d) : d = .pointer e := by
  cases d <;> simp_all [TK.of]
theorem TK.of_int {d : TypeDesc} {k : IntKind} (h : TK.int k = TK.of d) : d = .int k := by
  cases d <;> simp_all [TK.of]
theorem TK.of_bool {d : TypeDesc} (h : TK.bool = TK.of d) : d = .bool := by
  cases d <;> simp_all [TK.of]
theorem TK.of_string {d : TypeDesc} (h : TK.string = TK.of d) : d = .string := by
  cases d <;> simp_all [TK.of]
theorem TK.of_str {d : TypeDesc} {l : List (Nat × Nat)} (h : TK.str l = TK.of d) : ∃ fs, d = .struct fs ∧ l = fs.toList.map fun f => (f.offset, f.type) := by
  cases d <;> simp_all [TK.of]

theorem Lies.sub {I : Imm} {w : World} {b off : Nat} {vs us : List Value} {k : Nat} (h : Lies I w b off vs) (hs : ∀ i x, us[i]? = some x → vs[k + i]? = some x) : Lies I w b (off + k) us := fun i x hx => by
  have := h (k + i) x (hs i x hx)
  rwa [← Nat.add_assoc] at this

/-- A row of elements: the cells of one of them. -/
theorem RL_rows {k : Nat} : ∀ {rows : List AV} {vs : List Value} {i : Nat} {a : AV}, (∀ a ∈ rows, szA a = k) → RL ρ I w rows vs → rows[i]? = some a →
    ∃ ys, R ρ I w a ys ∧ ys.length = k ∧ (∀ j x, ys[j]? = some x → vs[i * k + j]? = some x) ∧ (vs.drop (i * k)).take k = ys
  | [], _, _, _, _, _, h => by simp at h
  | b :: bs, vs, i, a, hk, ⟨ys, zs, h0, h1, h2⟩, h => by
    subst h0
    have hl := R_len b ys h1
    have hb := hk b (by simp)
    cases i with
    | zero =>
      simp only [List.getElem?_cons_zero, Option.some.injEq] at h
      subst h
      refine ⟨ys, h1, by omega, fun j x hx => ?_, ?_⟩
      · rw [Nat.zero_mul, Nat.zero_add, List.getElem?_append_left (List.getElem?_eq_some_iff.1 hx).1, hx]
      · rw [Nat.zero_mul, List.drop_zero, List.take_append_of_le_length (by omega), List.take_of_length_le (by omega)]
    | succ i =>
      obtain ⟨us, g1, g2, g3, g4⟩ := RL_rows (fun a ha => hk a (by simp [ha])) h2 (by simpa using h)
      have e : (i + 1) * k = k + i * k := by rw [Nat.succ_mul, Nat.add_comm]
      refine ⟨us, g1, g2, fun j x hx => ?_, ?_⟩
      · rw [e, List.getElem?_append_right (by omega), show k + i * k + j - ys.length = i * k + j by omega]
        exact g3 j x hx
      · rw [e, List.drop_append, List.drop_eq_nil_of_le (by omega), List.nil_append, show k + i * k - ys.length = i * k by omega]
        exact g4

theorem R_cells {a : AV} {ys : List Value} (h : R ρ I w a ys) : RL ρ I w a.cells ys := by
  unfold AV.cells
  split
  · exact h
  · exact ⟨ys, [], by simp, h, rfl⟩

theorem run_indexAt {t : Nat} {ti : TI} (ht : G.ty t = some ti) {x i : AV} {vx vi : Value} (rx : rel ρ I w x vx) (ri : rel ρ I w i vi) {k : IntKind} {n : Int}
    (hi : i.toI = some (k, n)) {p : Bool × AV} (h : aIndexAddr G ti x n = some p) (hp : p.1 = true) :
    ∃ y, (Instr.indexAt t vx vi).run P w = .ok y w ∧ rel ρ I w p.2 y := by
  obtain ⟨j, d, h1, h2, h3, _, h5, _⟩ := ty_ok ht
  have hii : vi = .int k n := rel_toI hi ri
  subst hii
  unfold aIndexAddr at h
  split at h
  · rename_i len e hk
    rw [hk] at h5
    obtain rfl := TK.of_arr h5
    split at h
    · rename_i te hte
      obtain ⟨je, de, e1, e2, e3, _, e5, _⟩ := ty_ok hte
      split at h
      · rename_i v hv
        simp only [Option.some.injEq] at h
        subst h
        have hn := inB_iff.1 hp
        obtain ⟨b, o, rfl, hr⟩ := elemAddr_sound rx hv hn
        refine ⟨_, ?_, hr⟩
        simp [Instr.indexAt, asIntOf, run_underlying h2, Instr.sureAddr, hn, run_sizeOf e1, e3, addr_add]
      · simp at h
    · simp at h
  · rename_i e id off kk len hk
    rw [hk] at h5
    obtain rfl := TK.of_slice h5
    split at h
    · rename_i te hte
      obtain ⟨je, de, e1, e2, e3, _, e5, _⟩ := ty_ok hte
      split at h
      · rename_i v hv
        simp only [Option.some.injEq] at h
        subst h
        simp only [Bool.and_eq_true, beq_iff_eq] at hp
        obtain ⟨hn, rfl⟩ := hp
        have hn := inB_iff.1 hn
        rcases rel_sl.1 rx with ⟨b, cap, g1, rfl, g2, g3, g4⟩ | ⟨rfl, _⟩
        · obtain ⟨b', o, he, hr⟩ := elemAddr_sound (rel_ptr.2 ⟨b, g1, rfl⟩ : rel ρ I w (.ptr id off) (.pointer (some ⟨b, off, none⟩))) hv hn
          simp only [Value.pointer.injEq, Option.some.injEq, Addr.mk.injEq, and_true] at he
          obtain ⟨rfl, rfl⟩ := he
          refine ⟨_, ?_, hr⟩
          simp [Instr.indexAt, asIntOf, run_underlying h2, hn, run_sizeOf e1, e3, addr_add]
        · omega
      · simp at h
    · simp at h
  · rename_i e full l hk
    rw [hk] at h5
    obtain rfl := TK.of_slice h5
    split at h
    · rename_i te hte
      obtain ⟨je, de, e1, e2, e3, _, e5, _⟩ := ty_ok hte
      simp only [Option.some.injEq] at h
      subst h
      simp only [Bool.and_eq_true, beq_iff_eq] at hp
      obtain ⟨hn, hsz⟩ := hp
      have hn := inB_iff.1 hn
      obtain ⟨a, cap, rfl, g1, g2, g3 | ⟨b, off, rfl, g3, g4⟩⟩ := rel_vec8.1 rx
      · omega
      · refine ⟨.pointer (some ⟨b, off + n.toNat, none⟩), ?_, rel_vpx.2 ⟨hn, v8 l, ⟨_, [], by simp, ⟨rfl, rfl⟩, rfl⟩, b, off, by simp, g4⟩⟩
        have : je.size = 1 := by omega
        simp [Instr.indexAt, asIntOf, run_underlying h2, hn, run_sizeOf e1, this, addr_add]
    · simp at h
  · rename_i e full kk rows hk
    rw [hk] at h5
    obtain rfl := TK.of_slice h5
    split at h
    · rename_i te hte
      obtain ⟨je, de, e1, e2, e3, _, e5, _⟩ := ty_ok hte
      simp only [Option.some.injEq] at h
      subst h
      simp only [Bool.and_eq_true, beq_iff_eq] at hp
      obtain ⟨hn, rfl⟩ := hp
      have hn := inB_iff.1 hn
      obtain ⟨hev, vs, hrl, a, cap, rfl, g1, g2, g3 | ⟨b, off, rfl, g3, g4⟩⟩ := rel_vec.1 rx
      · omega
      · have hlt : n.toNat < rows.length := by omega
        obtain ⟨ys, q1, q2, q3, _⟩ := RL_rows hev hrl (i := n.toNat) (a := rows[n.toNat]) (by simp [hlt])
        refine ⟨.pointer (some ⟨b, off + n.toNat * te.size, none⟩), ?_, rel_vp.2 ⟨ys, ?_, b, off + n.toNat * te.size, by simp, g4.sub q3⟩⟩
        · simp [Instr.indexAt, asIntOf, run_underlying h2, hn, run_sizeOf e1, e3, addr_add]
        · rw [show rows.getD n.toNat .any = rows[n.toNat] by simp [List.getD, hlt]]
          exact R_cells q1
    · simp at h
  · rename_i e full kk m f hk
    rw [hk] at h5
    obtain rfl := TK.of_slice h5
    split at h
    · rename_i te hte
      obtain ⟨je, de, e1, e2, e3, _, e5, _⟩ := ty_ok hte
      simp only [Option.some.injEq] at h
      subst h
      simp only [Bool.and_eq_true, beq_iff_eq] at hp
      obtain ⟨hn, rfl⟩ := hp
      have hn := inB_iff.1 hn
      obtain ⟨hpu, vs, hvl, hrl, a, cap, rfl, g1, g2, g3 | ⟨b, off, rfl, g3, g4⟩⟩ := rel_vecr.1 rx
      · omega
      · have hlt : n.toNat < m := by omega
        refine ⟨.pointer (some ⟨b, off + n.toNat * te.size, none⟩), ?_, rel_vp.2 ⟨_, hrl n.toNat hlt, b, off + n.toNat * te.size, by simp, fun i x hx => ?_⟩⟩
        · simp [Instr.indexAt, asIntOf, run_underlying h2, hn, run_sizeOf e1, e3, addr_add]
        · have hx' : vs[n.toNat * te.size + i]? = some x := by
            rw [List.getElem?_take] at hx
            split at hx
            · rwa [List.getElem?_drop] at hx
            · simp at hx
          rw [Nat.add_assoc]
          exact g4 _ _ hx'
    · simp at h
  · rename_i e id kk m f hk
    rw [hk] at h5
    obtain rfl := TK.of_slice h5
    split at h
    · rename_i te hte
      obtain ⟨je, de, e1, e2, e3, _, e5, _⟩ := ty_ok hte
      simp only [Option.some.injEq] at h
      subst h
      simp only [Bool.and_eq_true, beq_iff_eq] at hp
      obtain ⟨hn, rfl⟩ := hp
      have hn := inB_iff.1 hn
      obtain ⟨hpu, vs, hvl, hrl, a, cap, rfl, g1, g2, g3 | ⟨b, off, rfl, g3, g4⟩⟩ := rel_vecr.1 (rel_slv.1 rx).1
      · omega
      · have hlt : n.toNat < m := by omega
        refine ⟨.pointer (some ⟨b, off + n.toNat * te.size, none⟩), ?_, rel_vp.2 ⟨_, hrl n.toNat hlt, b, off + n.toNat * te.size, by simp, fun i x hx => ?_⟩⟩
        · simp [Instr.indexAt, asIntOf, run_underlying h2, hn, run_sizeOf e1, e3, addr_add]
        · have hx' : vs[n.toNat * te.size + i]? = some x := by
            rw [List.getElem?_take] at hx
            split at hx
            · rwa [List.getElem?_drop] at hx
            · simp at hx
          rw [Nat.add_assoc]
          exact g4 _ _ hx'
    · simp at h
  · simp at h

theorem agg_get {cs : Array Value} {xs : List Value} {i : Nat} {y : Value} (h : cs.toList = xs) (hy : xs[i]? = some y) : cs[i]? = some y := by
  subst h; simpa using hy

/-- A number out of a row of numbers. -/
theorem run_partSeg {e len : Nat} {te : TI} (hte : G.ty e = some te) (hs : te.size = 1 ∧ te.kind.isAgg = false) {cs : Array Value} {xs : List Value} (h : cs.toList = xs) {n : Nat} {y : Value} (hy : xs[n]? = some y) :
    ∃ je, P.info? e = some je ∧ je.size = 1 ∧ (part e cs n).run P w = .ok y w := by
  obtain ⟨je, de, e1, e2, e3, _, e5, _⟩ := ty_ok hte
  have hk := hs.2
  rw [e5] at hk
  exact ⟨je, e1, by omega, by simp [part, run_isAgg e2, hk, agg_get h hy]⟩

theorem run_index {t : Nat} {ti : TI} (ht : G.ty t = some ti) {x i : AV} {vx vi : Value} (rx : rel ρ I w x vx) (ri : rel ρ I w i vi) {k : IntKind} {n : Int}
    (hi : i.toI = some (k, n)) {p : Bool × AV} (h : aIndex G ti x n = some p) (hp : p.1 = true) :
    ∃ y, (Instr.index t vx vi).run P w = .ok y w ∧ rel ρ I w p.2 y := by
  obtain ⟨j, d, h1, h2, h3, _, h5, _⟩ := ty_ok ht
  have hii : vi = .int k n := rel_toI hi ri
  subst hii
  have go : ∀ {e len m : Nat} {te : TI} {cs : Array Value} {xs : List Value} {y : Value}, ti.kind = .arr len e → G.ty e = some te → ((inB n len && len == m) && (te.size == 1 && !te.kind.isAgg)) = true → cs.toList = xs → xs[n.toNat]? = some y →
      (Instr.index t (.agg cs) (.int k n)).run P w = .ok y w := by
    intro e len m te cs xs y hk hte hp hcs hy
    rw [hk] at h5
    obtain rfl := TK.of_arr h5
    simp only [Bool.and_eq_true, beq_iff_eq, Bool.not_eq_true'] at hp
    obtain ⟨⟨hn, _⟩, hs⟩ := hp
    have hn := inB_iff.1 hn
    obtain ⟨je, e1, e2, e3⟩ := run_partSeg (w := w) (len := len) hte hs hcs hy
    simp [Instr.index, asIntOf, run_underlying h2, hn, run_sizeOf e1, e2, e3]
  unfold aIndex at h
  split at h
  · rename_i len e m l hk
    split at h
    · rename_i te hte
      simp only [Option.some.injEq] at h
      subst h
      obtain ⟨cs, rfl, hcs, hl⟩ := rel_b8.1 rx
      have hp' := hp
      simp only [Bool.and_eq_true, beq_iff_eq, Bool.not_eq_true'] at hp
      have hn := inB_iff.1 hp.1.1
      have := hp.1.2
      exact ⟨_, go hk hte hp' hcs (v8_get (by omega)), rel_u8.2 rfl⟩
    · simp at h
  · rename_i len e m l hk
    split at h
    · rename_i te hte
      simp only [Option.some.injEq] at h
      subst h
      obtain ⟨cs, rfl, hcs, hl⟩ := rel_w32.1 rx
      have hp' := hp
      simp only [Bool.and_eq_true, beq_iff_eq, Bool.not_eq_true'] at hp
      have hn := inB_iff.1 hp.1.1
      have := hp.1.2
      exact ⟨_, go hk hte hp' hcs (v32_get (by omega)), rel_u32.2 rfl⟩
    · simp at h
  · rename_i len e m l hk
    split at h
    · rename_i te hte
      simp only [Option.some.injEq] at h
      subst h
      obtain ⟨cs, rfl, hcs, hl⟩ := rel_w64.1 rx
      have hp' := hp
      simp only [Bool.and_eq_true, beq_iff_eq, Bool.not_eq_true'] at hp
      have hn := inB_iff.1 hp.1.1
      have := hp.1.2
      exact ⟨_, go hk hte hp' hcs (v64_get (by omega)), rel_u64.2 rfl⟩
    · simp at h
  · rename_i len e m l hk
    split at h
    · rename_i te hte
      obtain ⟨cs, rfl, hcs, hl⟩ := rel_n64.1 rx
      cases hag : te.kind.isAgg with
      | true =>
        rw [hag] at h
        simp only [cond_true, Option.some.injEq] at h
        subst h
        simp only [Bool.and_eq_true] at hp
        have hn := inB_iff.1 hp.1
        have hle := leB_iff.1 hp.2
        obtain ⟨je, de, e1, e2, e3, _, e5, _⟩ := ty_ok hte
        rw [hk] at h5
        obtain rfl := TK.of_arr h5
        rw [e5] at hag
        have hmul : n.toNat * te.size + te.size ≤ len * te.size := by
          have : (n.toNat + 1) * te.size ≤ len * te.size := Nat.mul_le_mul_right _ (by omega)
          rwa [Nat.add_mul, Nat.one_mul] at this
        refine ⟨.agg (cs.extract (n.toNat * te.size) (n.toNat * te.size + te.size)), ?_, rel_n64.2 ⟨_, rfl, ?_, ?_⟩⟩
        · simp [Instr.index, asIntOf, run_underlying h2, hn, run_sizeOf e1, e3, part, run_isAgg e2, hag]
        · rw [Array.toList_extract, hcs, List.extract_eq_take_drop, vi64_drop, vi64_take, Nat.add_sub_cancel_left]
        · rw [List.length_take, List.length_drop]; omega
      | false =>
        rw [hag] at h
        simp only [cond_false, Option.some.injEq] at h
        subst h
        have hp' := hp
        simp only [Bool.and_eq_true, beq_iff_eq, Bool.not_eq_true'] at hp
        have hn := inB_iff.1 hp.1.1
        have := hp.1.2
        exact ⟨_, go hk hte (by rw [hag]; exact hp') hcs (vi64_get (by omega)), rel_int.2 rfl⟩
    · simp at h
  · rename_i len e l hk
    rw [hk] at h5
    obtain rfl := TK.of_arr h5
    split at h
    · rename_i te hte
      obtain ⟨je, de, e1, e2, e3, _, e5, _⟩ := ty_ok hte
      split at h
      · rename_i q v hq
        simp only [Option.some.injEq] at h
        subst h
        simp only [Bool.and_eq_true] at hp
        obtain ⟨cs, rfl, hr⟩ := rel_agg.1 rx
        have hn := inB_iff.1 hp.1
        obtain ⟨y, hy, hry⟩ := run_part (p := (q, v)) hte hr hq hp.2
        refine ⟨y, ?_, hry⟩
        rw [e3] at hy
        simp only [Array.toArray_toList] at hy
        simp [Instr.index, asIntOf, run_underlying h2, hn, run_sizeOf e1, hy]
      · simp at h
    · simp at h
  · rename_i s hk
    rw [hk] at h5
    obtain rfl := TK.of_string h5
    simp only [Option.some.injEq] at h
    subst h
    have hn := inB_iff.1 hp
    obtain rfl := rel_str.1 rx
    have hlt : n.toNat < s.length := by omega
    have : (⟨s.toArray⟩ : ByteArray)[n.toNat]? = some s[n.toNat] := by
      have hsz : (⟨s.toArray⟩ : ByteArray).size = s.length := by simp [ByteArray.size]
      rw [getElem?_pos _ _ (by rw [hsz]; exact hlt)]
      rfl
    refine ⟨.int .u8 s[n.toNat].toNat, ?_, ?_⟩
    · simp [Instr.index, asIntOf, run_underlying h2, hn.1, this]
    · rw [rel_u8]; simp [List.getD, hlt]
  · simp at h

theorem rel_pickA {b : Bool} {x y : AV} {vx vy : Value} (hx : rel ρ I w x vx) (hy : rel ρ I w y vy) : rel ρ I w (pickA b x y) (if b then vx else vy) := by
  unfold pickA
  split
  · rw [rel_bool] at hx hy ⊢
    subst hx hy
    cases b <;> rfl
  · cases b
    · exact hy
    · exact hx

theorem run_field {t : Nat} {ti : TI} (ht : G.ty t = some ti) {x : AV} {vx : Value} (rx : rel ρ I w x vx) {f : Nat} {p : Bool × AV} (h : aField G ti x f = some p) (hp : p.1 = true) :
    ∃ y, (Instr.field t vx f).run P w = .ok y w ∧ rel ρ I w p.2 y := by
  obtain ⟨j, d, h1, h2, h3, _, h5, _⟩ := ty_ok ht
  unfold aField at h
  split at h
  · rename_i fs hk
    rw [hk] at h5
    obtain ⟨fields, rfl, rfl⟩ := TK.of_str h5
    split at h
    · rename_i off ft hf
      rw [List.getElem?_map, Option.map_eq_some_iff] at hf
      obtain ⟨fd, hfd, hfd2⟩ := hf
      simp only [Prod.mk.injEq] at hfd2
      obtain ⟨rfl, rfl⟩ := hfd2
      have hfd' : fields[f]? = some fd := by simpa using hfd
      split at h
      · rename_i tf htf
        cases hi : isAg x <;> rw [hi] at h <;> simp only [cond_true, cond_false, reduceCtorEq] at h
        obtain ⟨cs, rfl, hr⟩ := (rel_ag hi).1 rx
        obtain ⟨y, hy, hry⟩ := run_part (w := w) htf (R_cells hr) h hp
        refine ⟨y, ?_, hry⟩
        simp only [Array.toArray_toList] at hy
        simp [Instr.field, run_underlying h2, hfd', asAgg, hy]
      · simp at h
    · simp at h
  · simp at h
end
end Go.V

/- The abstract layer (second state), part F: comparisons, values of parts, functions that the model stands in for. -/
set_option linter.unusedSimpArgs false
set_option linter.unusedVariables false
namespace Go.V
open Go

section
variable {P : Program} {G : Env P} {ρ : Rho} {I : Imm} {H : Heap} {w : World}

theorem beq_toNat8 (x y : UInt8) : ((x.toNat : Int) == (y.toNat : Int)) = (x == y) := by
  rw [Bool.eq_iff_iff, beq_iff_eq, beq_iff_eq, ← UInt8.toNat_inj]; omega
theorem beq_toNat32 (x y : UInt32) : ((x.toNat : Int) == (y.toNat : Int)) = (x == y) := by
  rw [Bool.eq_iff_iff, beq_iff_eq, beq_iff_eq, ← UInt32.toNat_inj]; omega
theorem beq_toNat64 (x y : UInt64) : ((x.toNat : Int) == (y.toNat : Int)) = (x == y) := by
  rw [Bool.eq_iff_iff, beq_iff_eq, beq_iff_eq, ← UInt64.toNat_inj]; omega
theorem beq_bytes (x y : List UInt8) : ((⟨x.toArray⟩ : ByteArray) == ⟨y.toArray⟩) = (x == y) := by
  have h : ((⟨x.toArray⟩ : ByteArray) == ⟨y.toArray⟩) = (x.toArray == y.toArray) := rfl
  rw [h, Bool.eq_iff_iff, beq_iff_eq, beq_iff_eq]
  exact ⟨fun h => by simpa using h, fun h => by rw [h]⟩
theorem aeqK_sound {t : Nat} {d : TypeDesc} (hd : P.underlying t = some d) {k : TK} (hk : k = TK.of d) {a b : AV} {va vb : Value} (ra : rel ρ I w a va) (rb : rel ρ I w b vb) {r : Bool} (h : aeqK k a b = some r) (D : Nat) :
    (Op.equalIn (D + 1) t va vb).run P w = .ok r w := by
  subst hk
  cases d
  case int q =>
    unfold aeqK at h
    split at h
    all_goals (try (rename_i hk; simp [TK.of] at hk; done))
    case h_1 => simp only [rel_u8, rel_u32, rel_u64, rel_int, rel_bool, rel_str] at ra rb; subst ra rb; simp only [Option.some.injEq] at h; subst h; simp [Op.equalIn, run_underlying hd, beq_toNat8]
    case h_2 => simp only [rel_u8, rel_u32, rel_u64, rel_int, rel_bool, rel_str] at ra rb; subst ra rb; simp only [Option.some.injEq] at h; subst h; simp [Op.equalIn, run_underlying hd, beq_toNat32]
    case h_3 => simp only [rel_u8, rel_u32, rel_u64, rel_int, rel_bool, rel_str] at ra rb; subst ra rb; simp only [Option.some.injEq] at h; subst h; simp [Op.equalIn, run_underlying hd, beq_toNat64]
    case h_4 =>
      simp only [rel_u8, rel_u32, rel_u64, rel_int, rel_bool, rel_str] at ra rb; subst ra rb
      cases hkk : eqK _ _ <;> rw [hkk] at h <;> simp only [cond_true, cond_false, reduceCtorEq, Option.some.injEq] at h
      simp only [eqK, decide_eq_true_eq] at hkk
      subst hkk
      subst h
      simp [Op.equalIn, run_underlying hd]
    all_goals simp at h
  case bool =>
    simp only [TK.of] at h
    unfold aeqK at h
    split at h
    all_goals (try (rename_i hk; simp at hk; done))
    case h_5 => simp only [rel_u8, rel_u32, rel_u64, rel_int, rel_bool, rel_str] at ra rb; subst ra rb; simp only [Option.some.injEq] at h; subst h; simp [Op.equalIn, run_underlying hd]
    all_goals simp at h
  case string =>
    simp only [TK.of] at h
    unfold aeqK at h
    split at h
    all_goals (try (rename_i hk; simp at hk; done))
    case h_6 => simp only [rel_u8, rel_u32, rel_u64, rel_int, rel_bool, rel_str] at ra rb; subst ra rb; simp only [Option.some.injEq] at h; subst h; simp [Op.equalIn, run_underlying hd, beq_bytes]
    all_goals simp at h
  all_goals simp [TK.of, aeqK] at h

theorem eqItems_zip {e : Nat} {d : TypeDesc} (hd : P.underlying e = some d) (hagg : (TK.of d).isAgg = false) (D : Nat) {xs ys : List Value} : ∀ (ps : List (Value × Value × Bool)) (i : Nat),
    (∀ p ∈ ps, (Op.equalIn D e p.1 p.2.1).run P w = .ok p.2.2 w) → xs.drop i = ps.map (·.1) → ys.drop i = ps.map (·.2.1) →
    (Op.eqItems D e 1 xs.toArray ys.toArray (List.range' i ps.length)).run P w = .ok (ps.all (·.2.2)) w
  | [], i, _, _, _ => by simp [Op.eqItems]
  | p :: ps, i, hp, e1, e2 => by
    have hx : xs[i]? = some p.1 := by have := congrArg (·[0]?) e1; simpa using this
    have hy : ys[i]? = some p.2.1 := by have := congrArg (·[0]?) e2; simpa using this
    have px : (part e xs.toArray (i * 1)).run P w = .ok p.1 w := by simp [part, run_isAgg hd, hagg, hx]
    have py : (part e ys.toArray (i * 1)).run P w = .ok p.2.1 w := by simp [part, run_isAgg hd, hagg, hy]
    have e1' : xs.drop (i + 1) = ps.map (·.1) := by rw [← List.tail_drop, e1]; rfl
    have e2' : ys.drop (i + 1) = ps.map (·.2.1) := by rw [← List.tail_drop, e2]; rfl
    have ih := eqItems_zip hd hagg D ps (i + 1) (fun q hq => hp q (by simp [hq])) e1' e2'
    simp only [List.length_cons, List.range'_succ, Op.eqItems, Sem.run_bind, px, py, Result.andThen_ok, hp p (by simp), List.all_cons]
    cases p.2.2
    · simp
    · simpa using ih

theorem zip_all {α : Type} [BEq α] [LawfulBEq α] (f : α → Value) : ∀ (l l' : List α), l.length = l'.length →
    ∃ ps : List (Value × Value × Bool), ps.map (·.1) = l.map f ∧ ps.map (·.2.1) = l'.map f ∧ ps.all (·.2.2) = (l == l') ∧ (∀ p ∈ ps, ∃ x y, p = (f x, f y, x == y)) ∧ ps.length = l.length
  | [], [], _ => ⟨[], rfl, rfl, rfl, fun _ h => by simp at h, rfl⟩
  | [], _ :: _, h => by simp at h
  | _ :: _, [], h => by simp at h
  | x :: l, y :: l', h => by
    obtain ⟨ps, h1, h2, h3, h4, h5⟩ := zip_all f l l' (by simpa using h)
    refine ⟨(f x, f y, x == y) :: ps, by simp [h1], by simp [h2], by simp [h3], fun p hp => ?_, by simp [h5]⟩
    rcases List.mem_cons.1 hp with rfl | hp
    · exact ⟨x, y, rfl⟩
    · exact h4 p hp

theorem eqSeg {α : Type} [BEq α] [LawfulBEq α] (f : α → Value) {e n : Nat} {d : TypeDesc} (hd : P.underlying e = some d) (hagg : (TK.of d).isAgg = false) (D : Nat) (hf : ∀ x y : α, (Op.equalIn D e (f x) (f y)).run P w = .ok (x == y) w)
    {l l' : List α} (h1 : l.length = n) (h2 : l'.length = n) {cs cs' : Array Value} (hc : cs.toList = l.map f) (hc' : cs'.toList = l'.map f) :
    (Op.eqItems D e 1 cs cs' (List.range n)).run P w = .ok (l == l') w := by
  obtain ⟨ps, g1, g2, g3, g4, g5⟩ := zip_all f l l' (by omega)
  have := eqItems_zip (P := P) (w := w) hd hagg D (xs := cs.toList) (ys := cs'.toList) ps 0 (fun p hp => by
    obtain ⟨x, y, rfl⟩ := g4 p hp; exact hf x y) (by rw [g1, hc]; rfl) (by rw [g2, hc']; rfl)
  rw [g3, g5, h1] at this
  simpa [List.range_eq_range'] using this

theorem aeqIs_sound {f : AV → AV → Option (Bool × Bool)} {e D : Nat} {te : TI} (hte : G.ty e = some te) {xs ys : List AV} {vs vs' : List Value} (h1 : RL ρ I w xs vs) (h2 : RL ρ I w ys vs')
    (hf : ∀ a b p, f a b = some p → p.1 = true → ∀ va vb, rel ρ I w a va → rel ρ I w b vb → (Op.equalIn D e va vb).run P w = .ok p.2 w) : ∀ {n i : Nat} {p : Bool × Bool}, aeqIs f te xs ys n i = some p → p.1 = true →
    (Op.eqItems D e te.size vs.toArray vs'.toArray (List.range' i n)).run P w = .ok p.2 w
  | 0, i, p, h, _ => by simp [aeqIs] at h; subst h; simp [Op.eqItems]
  | n + 1, i, p, h, hp => by
    unfold aeqIs at h
    split at h
    · rename_i c a c' b ha hb
      split at h
      · rename_i d r d' s hr hs
        simp only [Option.some.injEq] at h
        subst h
        simp only [Bool.and_eq_true] at hp
        obtain ⟨⟨hc, hc'⟩, hd, hd'⟩ := hp
        obtain ⟨va, pa, ra⟩ := run_part (w := w) hte h1 ha hc
        obtain ⟨vb, pb, rb⟩ := run_part (w := w) hte h2 hb hc'
        have e1 := hf a b _ hr hd va vb ra rb
        have ih := aeqIs_sound hte h1 h2 hf hs hd'
        simp only [List.range'_succ, Op.eqItems, Sem.run_bind, pa, pb, Result.andThen_ok, e1]
        cases r
        · simp
        · simpa using ih
      · simp at h
    · simp at h
theorem aeqFs_sound {f : Nat → AV → AV → Option (Bool × Bool)} {D : Nat} {xs ys : List AV} {vs vs' : List Value} (h1 : RL ρ I w xs vs) (h2 : RL ρ I w ys vs')
    (hf : ∀ t a b p, f t a b = some p → p.1 = true → ∀ va vb, rel ρ I w a va → rel ρ I w b vb → (Op.equalIn D t va vb).run P w = .ok p.2 w) : ∀ {fs : List Field} {p : Bool × Bool},
    aeqFs G f xs ys (fs.map fun f => (f.offset, f.type)) = some p → p.1 = true → (fs.all fun f => f.name != "_") = true →
    (Op.eqFields D vs.toArray vs'.toArray fs).run P w = .ok p.2 w
  | [], p, h, _, _ => by simp [aeqFs] at h; subst h; simp [Op.eqFields]
  | g :: fs, p, h, hp, hn => by
    rw [List.map_cons] at h
    unfold aeqFs at h
    simp only [List.all_cons, Bool.and_eq_true, bne_iff_ne] at hn
    split at h
    · rename_i tf htf
      split at h
      · rename_i c a c' b ha hb
        split at h
        · rename_i d r d' s hr hs
          simp only [Option.some.injEq] at h
          subst h
          simp only [Bool.and_eq_true] at hp
          obtain ⟨⟨hc, hc'⟩, hd, hd'⟩ := hp
          obtain ⟨va, pa, ra⟩ := run_part (w := w) htf h1 ha hc
          obtain ⟨vb, pb, rb⟩ := run_part (w := w) htf h2 hb hc'
          have e1 := hf g.type a b _ hr hd va vb ra rb
          have ih := aeqFs_sound h1 h2 hf hs hd' hn.2
          simp only [Op.eqFields, hn.1, ne_eq, not_false_eq_true, if_true, Sem.run_bind, pa, pb, Result.andThen_ok, e1]
          cases r
          · simp
          · simpa using ih
        · simp at h
      · simp at h
    · simp at h

theorem TK.of_isInt {d : TypeDesc} (h : (TK.of d).isInt = true) : ∃ k, d = .int k := by
  cases d <;> simp [TK.of, TK.isInt] at h
  exact ⟨_, rfl⟩

theorem aeqT_sound : ∀ (d t : Nat) (a b : AV) (p : Bool × Bool), aeqT G d t a b = some p → p.1 = true → ∀ (D : Nat) (va vb : Value), rel ρ I w a va → rel ρ I w b vb → (Op.equalIn (D + d + 1) t va vb).run P w = .ok p.2 w
  | 0, t, a, b, p, h => by simp [aeqT] at h
  | d + 1, t, a, b, p, h => by
    intro hp D va vb ra rb
    unfold aeqT at h
    split at h
    · simp at h
    · rename_i ti ht
      obtain ⟨j, dd, q1, q2, q3, _, q5, _, _, q8⟩ := ty_ok ht
      have seg : ∀ {α : Type} [BEq α] [LawfulBEq α] (f : α → Value) (e n m m' : Nat) (l l' : List α) (te : TI) (cs cs' : Array Value), ti.kind = .arr n e → G.ty e = some te → ((te.size == 1 && te.kind.isInt) && (n == m && n == m')) = true →
          l.length = m → l'.length = m' → cs.toList = l.map f → cs'.toList = l'.map f → (∀ (D' : Nat) (x y : α) (k : IntKind), P.underlying e = some (.int k) → (Op.equalIn (D' + 1) e (f x) (f y)).run P w = .ok (x == y) w) →
          (Op.equalIn (D + (d + 1) + 1) t (.agg cs) (.agg cs')).run P w = .ok (l == l') w := by
        intro α _ _ f e n m m' l l' te cs cs' hk hte hp h1 h2 hc hc' hf
        obtain rfl := TK.of_arr (hk.symm.trans q5)
        obtain ⟨je, de, e1, e2, e3, _, e5, _⟩ := ty_ok hte
        simp only [Bool.and_eq_true, beq_iff_eq] at hp
        obtain ⟨⟨p1, p2⟩, rfl, rfl⟩ := hp
        have hsz : P.cellsOf e = 1 := by simp [Program.cellsOf, e1]; omega
        rw [run_equalIn_array w (D + (d + 1)) cs cs' q2 e1, hsz]
        rw [e5] at p2
        obtain ⟨k, rfl⟩ := TK.of_isInt p2
        exact eqSeg f e2 rfl _ (fun x y => hf _ x y k e2) h1 h2 hc hc'
      split at h
      · rename_i n e m l m' l' hk
        split at h
        · rename_i te hte
          simp only [Option.some.injEq] at h
          subst h
          obtain ⟨cs, rfl, hc, hl⟩ := rel_b8.1 ra
          obtain ⟨cs', rfl, hc', hl'⟩ := rel_b8.1 rb
          exact seg _ e n m m' l l' te cs cs' hk hte hp hl hl' hc hc' fun D' x y k hu => by simp [Op.equalIn, run_underlying hu, beq_toNat8]
        · simp at h
      · rename_i n e m l m' l' hk
        split at h
        · rename_i te hte
          simp only [Option.some.injEq] at h
          subst h
          obtain ⟨cs, rfl, hc, hl⟩ := rel_w32.1 ra
          obtain ⟨cs', rfl, hc', hl'⟩ := rel_w32.1 rb
          exact seg _ e n m m' l l' te cs cs' hk hte hp hl hl' hc hc' fun D' x y k hu => by simp [Op.equalIn, run_underlying hu, beq_toNat32]
        · simp at h
      · rename_i n e m l m' l' hk
        split at h
        · rename_i te hte
          simp only [Option.some.injEq] at h
          subst h
          obtain ⟨cs, rfl, hc, hl⟩ := rel_w64.1 ra
          obtain ⟨cs', rfl, hc', hl'⟩ := rel_w64.1 rb
          exact seg _ e n m m' l l' te cs cs' hk hte hp hl hl' hc hc' fun D' x y k hu => by simp [Op.equalIn, run_underlying hu, beq_toNat64]
        · simp at h
      · rename_i n e xs ys hk
        obtain rfl := TK.of_arr (hk.symm.trans q5)
        obtain ⟨cs, rfl, hx⟩ := rel_agg.1 ra
        obtain ⟨cs', rfl, hy⟩ := rel_agg.1 rb
        split at h
        · rename_i te hte
          obtain ⟨je, de, e1, e2, e3, _, e5, _⟩ := ty_ok hte
          have hsz : P.cellsOf e = te.size := by simp [Program.cellsOf, e1, e3]
          rw [run_equalIn_array w (D + (d + 1)) cs cs' q2 e1, hsz]
          have := aeqIs_sound hte hx hy (fun a b p h hp va vb ra rb => aeqT_sound d e a b p h hp D va vb ra rb) h hp
          rw [Nat.add_assoc] at this
          simpa [List.range_eq_range'] using this
        · simp at h
      · rename_i fs xs ys hk
        obtain ⟨fields, rfl, rfl⟩ := TK.of_str (hk.symm.trans q5)
        obtain ⟨cs, rfl, hx⟩ := rel_agg.1 ra
        obtain ⟨cs', rfl, hy⟩ := rel_agg.1 rb
        split at h
        · rename_i c r hr
          simp only [Option.some.injEq] at h
          subst h
          simp only [Bool.and_eq_true] at hp
          obtain ⟨hok, hc⟩ := hp
          have hok := q8 hok
          simp only [strOk, Bool.and_eq_true, Bool.not_eq_true'] at hok
          have hfs : P.fieldsOf t = fields := by simp [Program.fieldsOf, q2]
          rw [run_equalIn_struct w (D + (d + 1)) t cs cs' (by rw [hfs]; exact q2) hok.2, hfs]
          rw [hfs] at hok
          exact aeqFs_sound (p := (c, r)) hx hy (fun t a b p h hp va vb ra rb => aeqT_sound d t a b p h hp D va vb ra rb) hr hc (by have := hok.1; rwa [← Array.all_toList] at this)
        · simp at h
      · split at h
        · rename_i r hr
          simp only [Option.some.injEq] at h
          subst h
          exact aeqK_sound q2 q5 ra rb hr (D + (d + 1))
        · simp at h

theorem eqGuard_ok (op : BinOp) (t : TypeId) (x y : Operand) {a b : Value} (h1 : ∀ cs, a ≠ .agg cs) (h2 : a ≠ .nilIface) : (eqGuard op t x y a b).run P w = .ok () w := by
  cases op <;> simp only [eqGuard] <;> first | rfl | (cases a <;> first | rfl | exact absurd rfl h2 | exact absurd rfl (h1 _))

/-- Is it neither a struct or an array nor something unknown? -/
def plainA : AV → Bool
  | .int .. | .u8 _ | .u32 _ | .u64 _ | .bool _ | .str _ => true
  | _ => false

theorem plainA_sound {a : AV} {v : Value} (r : rel ρ I w a v) (h : plainA a = true) : (∀ cs, v ≠ .agg cs) ∧ v ≠ .nilIface := by
  cases a <;> simp [plainA] at h <;> simp only [rel_u8, rel_u32, rel_u64, rel_int, rel_bool, rel_str] at r <;> subst r <;> exact ⟨fun _ h => (by cases h), fun h => (by cases h)⟩

theorem toI_plain {a : AV} {k : IntKind} {n : Int} (h : a.toI = some (k, n)) : plainA a = true := by
  cases a <;> simp_all [AV.toI, plainA]
theorem aArith_plain {op : BinOp} {a b : AV} {p : Bool × AV} (h : aArith op a b = some p) : plainA a = true := by
  unfold aArith at h
  split at h <;> first | rfl | simp at h
theorem aShift_plain {op : BinOp} {a b : AV} {p : Bool × AV} (h : aShift op a b = some p) : plainA a = true := by
  unfold aShift at h
  split at h
  · simp at h
  · split at h <;> first | rfl | simp at h
theorem aCmp_plain {op : BinOp} {a b : AV} {p : Bool × AV} (h : aCmp op a b = some p) : plainA a = true := by
  unfold aCmp at h
  split at h
  · rename_i ha _; exact toI_plain ha
  · simp at h
theorem aBoolEq_plain {op : BinOp} {a b : AV} {p : Bool × AV} (h : aBoolEq op a b = some p) : plainA a = true := by
  unfold aBoolEq at h
  split at h <;> first | rfl | simp at h
theorem aStr_plain {op : BinOp} {a b : AV} {p : Bool × AV} (h : aStr op a b = some p) : plainA a = true := by
  unfold aStr at h
  split at h <;> first | rfl | simp at h

theorem aeqT_agg {t : Nat} {ti : TI} (ht : G.ty t = some ti) (hw : ti.kind.isAgg = true) {x y : AV} {vx vy : Value} (rx : rel ρ I w x vx) (ry : rel ρ I w y vy) {p : Bool × Bool} (h : aeqT G 8 t x y = some p) : ∃ cs cs', vx = .agg cs ∧ vy = .agg cs' := by
  unfold aeqT at h
  rw [ht] at h
  simp only at h
  split at h
  · obtain ⟨cs, rfl, _⟩ := rel_b8.1 rx; obtain ⟨cs', rfl, _⟩ := rel_b8.1 ry; exact ⟨_, _, rfl, rfl⟩
  · obtain ⟨cs, rfl, _⟩ := rel_w32.1 rx; obtain ⟨cs', rfl, _⟩ := rel_w32.1 ry; exact ⟨_, _, rfl, rfl⟩
  · obtain ⟨cs, rfl, _⟩ := rel_w64.1 rx; obtain ⟨cs', rfl, _⟩ := rel_w64.1 ry; exact ⟨_, _, rfl, rfl⟩
  · obtain ⟨cs, rfl, _⟩ := rel_agg.1 rx; obtain ⟨cs', rfl, _⟩ := rel_agg.1 ry; exact ⟨_, _, rfl, rfl⟩
  · obtain ⟨cs, rfl, _⟩ := rel_agg.1 rx; obtain ⟨cs', rfl, _⟩ := rel_agg.1 ry; exact ⟨_, _, rfl, rfl⟩
  · split at h
    · rename_i r hr
      unfold aeqK at hr
      split at hr
      all_goals first | (simp at hr; done) | simp_all [TK.isAgg]
    · simp at h

theorem aAggEq_sound {op : BinOp} {t : Nat} {ti : TI} (ht : G.ty t = some ti) (hw : ti.kind.isAgg = true) {x y : AV} {vx vy : Value} (rx : rel ρ I w x vx) (ry : rel ρ I w y vy) {p : Bool × AV} (h : aAggEq G op t ti x y = some p) (hp : p.1 = true) :
    (∀ xo yo, (eqGuard op t xo yo vx vy).run P w = .ok () w) ∧ ∃ z, (binOp op t vx vy).run P w = .ok z w ∧ rel ρ I w p.2 z := by
  obtain ⟨j, dd, q1, q2, q3, _, q5, _, q7, _⟩ := ty_ok ht
  unfold aAggEq at h
  split at h
  · split at h
    · rename_i c r hr
      simp only [Option.some.injEq] at h
      subst h
      simp only [Bool.and_eq_true] at hp
      obtain ⟨cs, cs', rfl, rfl⟩ := aeqT_agg ht hw rx ry hr
      have he : (Op.equalIn 10000 t (.agg cs) (.agg cs')).run P w = .ok r w := aeqT_sound 8 t x y (c, r) hr hp.2 9991 _ _ rx ry
      exact ⟨fun xo yo => run_eqGuard_agg w _ t xo yo cs cs' (q7 hp.1), _, by rw [run_eql_struct, he]; rfl, rel_bool.2 rfl⟩
    · simp at h
  · split at h
    · rename_i c r hr
      simp only [Option.some.injEq] at h
      subst h
      simp only [Bool.and_eq_true] at hp
      obtain ⟨cs, cs', rfl, rfl⟩ := aeqT_agg ht hw rx ry hr
      have he : (Op.equalIn 10000 t (.agg cs) (.agg cs')).run P w = .ok r w := aeqT_sound 8 t x y (c, r) hr hp.2 9991 _ _ rx ry
      exact ⟨fun xo yo => run_eqGuard_agg w _ t xo yo cs cs' (q7 hp.1), _, by rw [run_neq_struct, he]; rfl, rel_bool.2 rfl⟩
    · simp at h
  · simp at h

theorem run_bin {op : BinOp} {t : Nat} {x y : AV} {vx vy : Value} (rx : rel ρ I w x vx) (ry : rel ρ I w y vy) {p : Bool × AV} (h : aBin G op t x y = some p) (hp : p.1 = true) :
    (∀ xo yo, (eqGuard op t xo yo vx vy).run P w = .ok () w) ∧ ∃ z, (binOp op t vx vy).run P w = .ok z w ∧ rel ρ I w p.2 z := by
  have pl : plainA x = true → ∀ xo yo, (eqGuard op t xo yo vx vy).run P w = .ok () w := fun h xo yo => by
    obtain ⟨g1, g2⟩ := plainA_sound rx h
    exact eqGuard_ok op t xo yo g1 g2
  unfold aBin at h
  split at h
  · rename_i r hr
    simp only [Option.some.injEq] at h
    subst h
    exact ⟨pl (aArith_plain hr), run_arith rx ry hr hp⟩
  · split at h
    · rename_i r hr
      simp only [Option.some.injEq] at h
      subst h
      split at hr
      · exact ⟨pl (aShift_plain hr), run_shift rx ry hr hp⟩
      · exact ⟨pl (aShift_plain hr), run_shift rx ry hr hp⟩
      · rename_i h1 h2
        exact ⟨pl (aCmp_plain hr), run_cmp ⟨fun h => h1 h, fun h => h2 h⟩ rx ry hr hp⟩
    · split at h
      · rename_i ti ht
        obtain ⟨j, d, h1, h2, _, _, h5, _⟩ := ty_ok ht
        split at h
        · rename_i hk
          rw [hk] at h5
          obtain rfl := TK.of_bool h5
          exact ⟨pl (aBoolEq_plain h), run_boolEq h2 rx ry h⟩
        · exact ⟨pl (aStr_plain h), run_str rx ry h hp⟩
        · rename_i hk
          exact aAggEq_sound ht (by rw [hk]; rfl) rx ry h hp
        · rename_i hk
          exact aAggEq_sound ht (by rw [hk]; rfl) rx ry h hp
        · simp at h
      · simp at h

theorem RV_mapev {ev : Operand → AV} {e : Operand → Value} (r : ∀ x, rel ρ I w (ev x) (e x)) (l : List Operand) : RV ρ I w (l.map ev) (l.map e) := by
  induction l with
  | nil => simp [RV]
  | cons a as ih => exact RV_cons.2 ⟨_, _, rfl, r a, ih⟩

theorem run_sub64 (x y b : Nat) (hb : b ≤ 1) (w : World) :
    (sub64Entry #[.int .u64 x, .int .u64 y, .int .u64 b]).run P w =
      .ok (.tuple #[.int .u64 (((x + 18446744073709551616 - y - b) % 18446744073709551616 : Nat) : Int), .int .u64 ((if x < y + b then 1 else 0 : Nat) : Int)]) w := by
  have : b = 0 ∨ b = 1 := by omega
  rcases this with rfl | rfl <;> rfl


theorem run_aext {f : FuncId} {args : List AV} {vs : List Value} (r : RV ρ I w args vs) {p : Bool × AV} (h : aext (G.x f) args = some p) (hp : p.1 = true) :
    ∃ x, (callFunc f vs.toArray).run P w = .ok (.value x) w ∧ rel ρ I w p.2 x := by
  unfold aext at h
  split at h
  · rename_i x y c hx
    simp only [Option.some.injEq] at h
    subst h
    have he := G.addOk f hx
    have hc := leB_iff.1 hp
    obtain ⟨_, _, rfl, e1, r1⟩ := RV_cons.1 r
    obtain ⟨_, _, rfl, e2, r2⟩ := RV_cons.1 r1
    obtain ⟨_, _, rfl, e3, r3⟩ := RV_cons.1 r2
    rw [RV_nil] at r3
    rw [rel_u64] at e1 e2 e3
    subst r3 e1 e2 e3
    refine ⟨.tuple #[.int .u64 (x + y + c).toNat, .int .u64 (carry64 x y c).toNat], ?_, rel_tup.2 ⟨_, rfl, ?_⟩⟩
    · show (callFunc f #[_, _, _]).run P w = _
      rw [he, run_add64 _ _ _ (by omega) (by omega) (by omega) (by omega)]
      simp only [Result.andThen_ok]
      have hx := x.toNat_lt
      have hy := y.toNat_lt
      have e1 : ((x.toNat : Int) + y.toNat + c.toNat) % 18446744073709551616 = ((x + y + c).toNat : Int) := by
        rw [UInt64.toNat_add, UInt64.toNat_add]; omega
      have e2 : ((x.toNat : Int) + y.toNat + c.toNat) / 18446744073709551616 = ((carry64 x y c).toNat : Int) := by
        rw [carry64_eq]
        split
        · rw [show (0 : UInt64).toNat = 0 from rfl]; omega
        · rw [show (1 : UInt64).toNat = 1 from rfl]; omega
      rw [e1, e2]
    · exact RV_cons.2 ⟨_, _, rfl, rel_u64.2 rfl, RV_cons.2 ⟨_, _, rfl, rel_u64.2 rfl, rfl⟩⟩
  · rename_i x y c hx
    simp only [Option.some.injEq] at h
    subst h
    have he := G.subOk f hx
    have hc := leB_iff.1 hp
    obtain ⟨_, _, rfl, e1, r1⟩ := RV_cons.1 r
    obtain ⟨_, _, rfl, e2, r2⟩ := RV_cons.1 r1
    obtain ⟨_, _, rfl, e3, r3⟩ := RV_cons.1 r2
    rw [RV_nil] at r3
    rw [rel_u64] at e1 e2 e3
    subst r3 e1 e2 e3
    refine ⟨.tuple #[.int .u64 (x - y - c).toNat, .int .u64 (borrow64 x y c).toNat], ?_, rel_tup.2 ⟨_, rfl, ?_⟩⟩
    · show (callFunc f #[_, _, _]).run P w = _
      rw [he, run_sub64 _ _ _ hc]
      simp only [Result.andThen_ok]
      have hx := x.toNat_lt
      have hy := y.toNat_lt
      have e1 : (x.toNat + 18446744073709551616 - y.toNat - c.toNat) % 18446744073709551616 = (x - y - c).toNat := by
        rw [UInt64.toNat_sub, UInt64.toNat_sub]; omega
      have e2 : (if x.toNat < y.toNat + c.toNat then 1 else 0) = (borrow64 x y c).toNat := by
        rw [borrow64_eq]
        split <;> rfl
      rw [e1, e2]
    · exact RV_cons.2 ⟨_, _, rfl, rel_u64.2 rfl, RV_cons.2 ⟨_, _, rfl, rel_u64.2 rfl, rfl⟩⟩
  · simp at h

theorem run_alen {t : Nat} {ti : TI} (ht : G.ty t = some ti) {x v : AV} {vx : Value} (r : rel ρ I w x vx) (h : alen ti.kind x = some v) {tys : Array TypeId} (hty : tys[0]? = some t) (ty : TypeId) :
    ∃ y, (Builtin.len_ tys ty #[vx]).run P w = .ok y w ∧ rel ρ I w v y := by
  obtain ⟨j, d, h1, h2, h3, _, h5, _⟩ := ty_ok ht
  unfold alen at h
  split at h <;> simp only [Option.some.injEq, reduceCtorEq] at h <;> subst h <;> rename_i hk <;> rw [hk] at h5
  · obtain rfl := TK.of_slice h5
    obtain ⟨a, cap, rfl, _⟩ := rel_vec8.1 r
    exact ⟨_, by simp [Builtin.len_, hty, run_underlying h2, goInt], rel_int.2 rfl⟩
  · obtain rfl := TK.of_slice h5
    obtain ⟨_, vs, _, a, cap, rfl, _⟩ := rel_vec.1 r
    exact ⟨_, by simp [Builtin.len_, hty, run_underlying h2, goInt], rel_int.2 rfl⟩
  · obtain rfl := TK.of_slice h5
    obtain ⟨_, vs, _, _, a, cap, rfl, _⟩ := rel_vecr.1 r
    exact ⟨_, by simp [Builtin.len_, hty, run_underlying h2, goInt], rel_int.2 rfl⟩
  · obtain rfl := TK.of_slice h5
    obtain ⟨_, vs, _, _, a, cap, rfl, _⟩ := rel_vecr.1 (rel_slv.1 r).1
    exact ⟨_, by simp [Builtin.len_, hty, run_underlying h2, goInt], rel_int.2 rfl⟩
  · obtain rfl := TK.of_slice h5
    rcases rel_sl.1 r with ⟨b, cap, _, rfl, _⟩ | ⟨rfl, a, rfl⟩
    · exact ⟨_, by simp [Builtin.len_, hty, run_underlying h2, goInt], rel_int.2 rfl⟩
    · exact ⟨_, by simp [Builtin.len_, hty, run_underlying h2, goInt], rel_int.2 rfl⟩
  · obtain rfl := TK.of_string h5
    obtain rfl := rel_str.1 r
    exact ⟨.int .i64 _, by simp [Builtin.len_, hty, run_underlying h2, goInt]; rfl, by rw [rel_int]; simp [ByteArray.size]⟩

theorem run_aminmax {mx : Bool} {args : List AV} {vs : List Value} (r : RV ρ I w args vs) {v : AV} (h : aminmax mx args = some v) (tys : Array TypeId) (ty : TypeId) :
    ∃ y, (if mx then Builtin.max_ tys ty vs.toArray else Builtin.min_ tys ty vs.toArray).run P w = .ok y w ∧ rel ρ I w v y := by
  unfold aminmax at h
  split at h
  · rename_i x y
    simp only [Option.some.injEq] at h
    subst h
    obtain ⟨_, _, rfl, e1, r1⟩ := RV_cons.1 r
    obtain ⟨_, _, rfl, e2, r2⟩ := RV_cons.1 r1
    rw [RV_nil] at r2
    rw [rel_int] at e1 e2
    subst r2 e1 e2
    cases mx
    · refine ⟨.int .i64 (min x y), ?_, rel_int.2 rfl⟩
      simp [Builtin.min_, Builtin.min2]
      omega
    · refine ⟨.int .i64 (max x y), ?_, rel_int.2 rfl⟩
      simp [Builtin.max_, Builtin.max2]
      omega
  · simp at h

theorem known_cells {a : AV} {v : Value} (r : rel ρ I w a v) (ha : known a = true) : R ρ I w a v.cells.toList := by
  cases hi : isAg a with
  | true =>
    obtain ⟨cs, rfl, h⟩ := (rel_ag hi).1 r
    exact h
  | false =>
    have h := rel_one hi r
    have hv : v.cells = #[v] := by
      have one : ∀ x : Value, x.oneCell' = true → x.cells = #[x] := fun x hx => by cases x <;> simp_all [Value.oneCell', Value.cells]
      cases a <;> simp only [isAg, reduceCtorEq] at hi
      case any => simp [known] at ha
      case raw x => rw [rel_raw] at r; subst r; exact one _ (by simpa [known] using ha)
      case int => rw [rel_int] at r; subst r; rfl
      case u8 => rw [rel_u8] at r; subst r; rfl
      case u32 => rw [rel_u32] at r; subst r; rfl
      case u64 => rw [rel_u64] at r; subst r; rfl
      case bool => rw [rel_bool] at r; subst r; rfl
      case str => rw [rel_str] at r; subst r; rfl
      case ptr => obtain ⟨b, _, rfl⟩ := rel_ptr.1 r; rfl
      case pix => obtain ⟨b, _, _, rfl⟩ := rel_pix.1 r; rfl
      case sl => rcases rel_sl.1 r with ⟨b, cap, _, rfl, _⟩ | ⟨_, a, rfl⟩ <;> rfl
      case vec8 => obtain ⟨a, cap, rfl, _⟩ := rel_vec8.1 r; rfl
      case vec => obtain ⟨_, vs, _, a, cap, rfl, _⟩ := rel_vec.1 r; rfl
      case vecr => obtain ⟨_, vs, _, _, a, cap, rfl, _⟩ := rel_vecr.1 r; rfl
      case slv => obtain ⟨_, vs, _, _, a, cap, rfl, _⟩ := rel_vecr.1 (rel_slv.1 r).1; rfl
      case vp => obtain ⟨vs, _, b, off, rfl, _⟩ := rel_vp.1 r; rfl
      case vpx => obtain ⟨_, vs, _, b, off, rfl, _⟩ := rel_vpx.1 r; rfl
      case fn => obtain ⟨x, y, rfl, _⟩ := rel_fn.1 r; rfl
      case tup => obtain ⟨cs, rfl, _⟩ := rel_tup.1 r; rfl
    rw [hv]; exact h

mutual
theorem oneA_sound : ∀ (a : AV) (ys : List Value), R ρ I w a ys → oneA a = true → ∀ v ∈ ys, v.oneCell' = true
  | .agg l, ys, h, ha => oneL_sound l ys h (by simpa [oneA] using ha)
  | .b8 _ l, _, ⟨h, _⟩, _ => by subst h; intro v hv; simp [v8] at hv; obtain ⟨x, _, rfl⟩ := hv; rfl
  | .w32 _ l, _, ⟨h, _⟩, _ => by subst h; intro v hv; simp [v32] at hv; obtain ⟨x, _, rfl⟩ := hv; rfl
  | .w64 _ l, _, ⟨h, _⟩, _ => by subst h; intro v hv; simp [v64] at hv; obtain ⟨x, _, rfl⟩ := hv; rfl
  | .n64 _ l, _, ⟨h, _⟩, _ => by subst h; intro v hv; simp [vi64] at hv; obtain ⟨x, _, rfl⟩ := hv; rfl
  | .raw x, _, h, ha => by cases h; simpa [oneA] using ha
  | .int _ _, _, h, _ | .u8 _, _, h, _ | .u32 _, _, h, _ | .u64 _, _, h, _ | .bool _, _, h, _ | .str _, _, h, _ => by cases h; intro v hv; simp at hv; subst hv; rfl
  | .ptr _ _, _, ⟨v, h, b, _, h2⟩, _ => by subst h h2; intro v hv; simp at hv; subst hv; rfl
  | .pix _ _ _ _, _, ⟨v, h, b, _, _, h2⟩, _ => by subst h h2; intro v hv; simp at hv; subst hv; rfl
  | .sl _ _ _ _, _, ⟨v, h, h1⟩, _ => by
    subst h; intro v hv; simp at hv; subst hv
    rcases h1 with ⟨b, cap, _, rfl, _⟩ | ⟨_, a, rfl⟩ <;> rfl
  | .vec8 _ _, _, ⟨v, h, a, cap, h1, _⟩, _ => by subst h h1; intro v hv; simp at hv; subst hv; rfl
  | .vec _ _ _, _, ⟨v, h, _, vs, _, a, cap, h1, _⟩, _ => by subst h h1; intro v hv; simp at hv; subst hv; rfl
  | .vecr _ _ _ _, _, ⟨v, h, _, vs, _, _, a, cap, h1, _⟩, _ => by subst h h1; intro v hv; simp at hv; subst hv; rfl
  | .slv _ _ _ _, _, ⟨v, h, _, ⟨vs, _, _, a, cap, h1, _⟩, _⟩, _ => by subst h h1; intro v hv; simp at hv; subst hv; rfl
  | .vp _ _, _, ⟨v, h, vs, _, b, off, h1, _⟩, _ => by subst h h1; intro v hv; simp at hv; subst hv; rfl
  | .vpx _ _ _ _, _, ⟨v, h, _, vs, _, b, off, h1, _⟩, _ => by subst h h1; intro v hv; simp at hv; subst hv; rfl
  | .fn _ _ _, _, ⟨v, h, x, y, h1, _⟩, _ => by subst h h1; intro v hv; simp at hv; subst hv; rfl
  | .any, _, _, ha | .tup _, _, _, ha => by simp [oneA] at ha
theorem oneL_sound : ∀ (l : List AV) (ys : List Value), RL ρ I w l ys → oneL l = true → ∀ v ∈ ys, v.oneCell' = true
  | [], _, h, _ => by cases h; intro v hv; simp at hv
  | a :: as, _, ⟨ys, zs, h0, h1, h2⟩, ha => by
    subst h0
    simp only [oneL, Bool.and_eq_true] at ha
    intro v hv
    rcases List.mem_append.1 hv with hv | hv
    · exact oneA_sound a ys h1 ha.1 v hv
    · exact oneL_sound as zs h2 ha.2 v hv
end
end
end Go.V
