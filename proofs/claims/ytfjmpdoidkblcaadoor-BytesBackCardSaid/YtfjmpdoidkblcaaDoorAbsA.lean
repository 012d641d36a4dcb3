/- The abstract layer, part A: abstract values and abstract memory, what they say of a world, and that what is said is kept by steps. -/
import Derived.WalkKit
set_option linter.unusedSimpArgs false
set_option linter.unusedVariables false
namespace Go.Ab
open Go

/-- An abstract value. 'sl', 'ptr': into a block that this call owns (its number in the abstract memory). 'vec': a slice whose cells nobody writes any more, with what they hold. 'vp': a pointer to one of such cells. -/
inductive AV where
  | any
  | raw (v : Value)
  | int (k : IntKind) (n : Int)
  | u8 (x : UInt8)
  | u32 (x : UInt32)
  | u64 (x : UInt64)
  | bool (b : Bool)
  | str (s : List UInt8)
  | ptr (id off : Nat)
  | sl (id off sz len : Nat)
  | vec (full : Bool) (len : Nat) (cells : List AV)
  | vp (cells : List AV) (i : Nat)
  | fn (f : Fn) (first caps : List AV)
  | agg (l : List AV)
  | tup (l : List AV)
  deriving Inhabited

abbrev Rho := Nat → Option (Option Nat)
abbrev Imm := Nat → Nat → Prop

def bsz (w : World) (b : Nat) : Nat :=
  match w.heap[b]? with
  | some (.cells c _ _) => c.size
  | _ => 0

/-- What lies in the cells from (b, off) on, and stays. -/
def Lies (I : Imm) (w : World) (b off : Nat) (vs : List Value) : Prop :=
  ∀ i x, vs[i]? = some x → w.cell? ⟨b, off + i, none⟩ = some x ∧ I b (off + i)

mutual
def rel (ρ : Rho) (I : Imm) (w : World) : AV → Value → Prop
  | .any, _ => True
  | .raw x, v => v = x
  | .int k n, v => v = .int k n
  | .u8 x, v => v = .int .u8 x.toNat
  | .u32 x, v => v = .int .u32 x.toNat
  | .u64 x, v => v = .int .u64 x.toNat
  | .bool b, v => v = .bool b
  | .str s, v => v = .string ⟨s.toArray⟩
  | .ptr id off, v => ∃ b, ρ id = some (some b) ∧ v = .pointer (some ⟨b, off, none⟩)
  | .sl id off sz len, v =>
    (∃ b cap, ρ id = some (some b) ∧ v = .slice (some ⟨b, off, none⟩) len cap ∧ len ≤ cap ∧ b < w.heap.size ∧ off + cap * sz ≤ bsz w b) ∨
    (ρ id = some none ∧ off = 0 ∧ len = 0 ∧ v = .slice none 0 0)
  | .vec full len cells, v =>
    ∃ a cap, v = .slice a len cap ∧ len ≤ cap ∧ (full = true → cap = len) ∧
      ((a = none ∧ cap = 0 ∧ cells = []) ∨ ∃ b off vs, a = some ⟨b, off, none⟩ ∧ b < w.heap.size ∧ relL ρ I w cells vs ∧ Lies I w b off vs)
  | .vp cells i, v => ∃ b off vs, v = .pointer (some ⟨b, off + i, none⟩) ∧ relL ρ I w cells vs ∧ Lies I w b off vs
  | .fn f first caps, v => ∃ x y : Array Value, v = .func f x y ∧ relL ρ I w first x.toList ∧ relL ρ I w caps y.toList
  | .agg l, v => ∃ cs : Array Value, v = .agg cs ∧ relL ρ I w l cs.toList
  | .tup l, v => ∃ cs : Array Value, v = .tuple cs ∧ relL ρ I w l cs.toList
def relL (ρ : Rho) (I : Imm) (w : World) : List AV → List Value → Prop
  | [], l => l = []
  | a :: as, l => ∃ x xs, l = x :: xs ∧ rel ρ I w a x ∧ relL ρ I w as xs
end

/-- What a value's reading hangs on is kept. -/
structure Mono (ρ : Rho) (I : Imm) (w : World) (ρ' : Rho) (I' : Imm) (w' : World) : Prop where
  ext : ∀ id x, ρ id = some x → ρ' id = some x
  imm : ∀ b o, I b o → I' b o ∧ w'.cell? ⟨b, o, none⟩ = w.cell? ⟨b, o, none⟩
  sz : ∀ b, b < w.heap.size → b < w'.heap.size ∧ bsz w' b = bsz w b

theorem Mono.none {ρ : Rho} {I : Imm} {w : World} {ρ' : Rho} {I' : Imm} {w' : World} (m : Mono ρ I w ρ' I' w') : Mono (fun _ => none) I w (fun _ => none) I' w' :=
  ⟨fun _ _ h => h, m.imm, m.sz⟩

theorem Lies.mono {I I' : Imm} {w w' : World} (h : ∀ b o, I b o → I' b o ∧ w'.cell? ⟨b, o, none⟩ = w.cell? ⟨b, o, none⟩) {b off : Nat} {vs : List Value}
    (hl : Lies I w b off vs) : Lies I' w' b off vs := fun i x hx => by
  obtain ⟨h1, h2⟩ := hl i x hx
  exact ⟨(h _ _ h2).2.trans h1, (h _ _ h2).1⟩

mutual
theorem rel_mono {ρ : Rho} {I : Imm} {w : World} {ρ' : Rho} {I' : Imm} {w' : World} (m : Mono ρ I w ρ' I' w') :
    ∀ (a : AV) (v : Value), rel ρ I w a v → rel ρ' I' w' a v
  | .any, _, _ => trivial
  | .raw _, _, h => h
  | .int _ _, _, h => h
  | .u8 _, _, h => h
  | .u32 _, _, h => h
  | .u64 _, _, h => h
  | .bool _, _, h => h
  | .str _, _, h => h
  | .ptr _ _, _, h => by
    obtain ⟨b, h1, h2⟩ := h
    exact ⟨b, m.ext _ _ h1, h2⟩
  | .sl _ _ _ _, _, h => by
    rcases h with ⟨b, cap, h1, h2, h3, h4, h5⟩ | ⟨h1, h2⟩
    · exact .inl ⟨b, cap, m.ext _ _ h1, h2, h3, (m.sz b h4).1, (m.sz b h4).2 ▸ h5⟩
    · exact .inr ⟨m.ext _ _ h1, h2⟩
  | .vec _ _ cells, _, h => by
    obtain ⟨a, cap, h1, h2, h3, h4⟩ := h
    refine ⟨a, cap, h1, h2, h3, ?_⟩
    rcases h4 with h4 | ⟨b, off, vs, g1, g2, g3, g4⟩
    · exact .inl h4
    · exact .inr ⟨b, off, vs, g1, (m.sz b g2).1, relL_mono m cells vs g3, g4.mono m.imm⟩
  | .vp cells _, _, h => by
    obtain ⟨b, off, vs, g1, g3, g4⟩ := h
    exact ⟨b, off, vs, g1, relL_mono m cells vs g3, g4.mono m.imm⟩
  | .fn _ first caps, _, h => by
    obtain ⟨x, y, h1, h2, h3⟩ := h
    exact ⟨x, y, h1, relL_mono m first _ h2, relL_mono m caps _ h3⟩
  | .agg l, _, h => by
    obtain ⟨cs, h1, h2⟩ := h
    exact ⟨cs, h1, relL_mono m l _ h2⟩
  | .tup l, _, h => by
    obtain ⟨cs, h1, h2⟩ := h
    exact ⟨cs, h1, relL_mono m l _ h2⟩
theorem relL_mono {ρ : Rho} {I : Imm} {w : World} {ρ' : Rho} {I' : Imm} {w' : World} (m : Mono ρ I w ρ' I' w') :
    ∀ (l : List AV) (vs : List Value), relL ρ I w l vs → relL ρ' I' w' l vs
  | [], _, h => h
  | a :: as, _, h => by
    obtain ⟨x, xs, h1, h2, h3⟩ := h
    exact ⟨x, xs, h1, rel_mono m a x h2, relL_mono m as xs h3⟩
end

section lists
variable {ρ : Rho} {I : Imm} {w : World}

theorem relL_nil {vs : List Value} : relL ρ I w [] vs ↔ vs = [] := by simp [relL]

theorem relL_cons {a : AV} {as : List AV} {vs : List Value} :
    relL ρ I w (a :: as) vs ↔ ∃ x xs, vs = x :: xs ∧ rel ρ I w a x ∧ relL ρ I w as xs := by
  simp [relL]

theorem relL_len : ∀ {l : List AV} {vs : List Value}, relL ρ I w l vs → l.length = vs.length
  | [], _, h => by rw [relL_nil] at h; simp [h]
  | a :: as, _, h => by
    obtain ⟨x, xs, rfl, _, h3⟩ := relL_cons.1 h
    simp [relL_len h3]

theorem relL_iff {l : List AV} : ∀ {vs : List Value}, relL ρ I w l vs ↔ l.length = vs.length ∧ ∀ (i : Nat) (a : AV) (x : Value), l[i]? = some a → vs[i]? = some x → rel ρ I w a x := by
  induction l with
  | nil => intro vs; rw [relL_nil]; constructor
           · rintro rfl; simp
           · rintro ⟨h, _⟩; exact List.eq_nil_of_length_eq_zero h.symm
  | cons a as ih =>
    intro vs
    rw [relL_cons]
    constructor
    · rintro ⟨x, xs, rfl, h1, h2⟩
      obtain ⟨g1, g2⟩ := ih.1 h2
      refine ⟨by simp [g1], fun i b y hb hy => ?_⟩
      cases i with
      | zero => simp at hb hy; subst hb; subst hy; exact h1
      | succ i => simp at hb hy; exact g2 i b y hb hy
    · rintro ⟨h1, h2⟩
      cases vs with
      | nil => simp at h1
      | cons x xs =>
        refine ⟨x, xs, rfl, h2 0 a x rfl rfl, ih.2 ⟨by simpa using h1, fun i b y hb hy => h2 (i + 1) b y (by simpa using hb) (by simpa using hy)⟩⟩

theorem relL_get {l : List AV} {vs : List Value} (h : relL ρ I w l vs) {i : Nat} {a : AV} (ha : l[i]? = some a) : ∃ x, vs[i]? = some x ∧ rel ρ I w a x := by
  obtain ⟨h1, h2⟩ := relL_iff.1 h
  have hi : i < vs.length := by
    have := (List.getElem?_eq_some_iff.1 ha).1; omega
  exact ⟨vs[i], by simp [hi], h2 i a _ ha (by simp [hi])⟩

theorem relL_getD {l : List AV} {vs : List Value} (h : relL ρ I w l vs) (i : Nat) : rel ρ I w (l.getD i .any) (vs.getD i undef) := by
  rw [List.getD_eq_getElem?_getD, List.getD_eq_getElem?_getD]
  cases ha : l[i]? with
  | none => simp [rel]
  | some a =>
    obtain ⟨x, hx, hr⟩ := relL_get h ha
    simpa [hx] using hr

theorem relL_append {l l' : List AV} {vs vs' : List Value} (h : relL ρ I w l vs) (h' : relL ρ I w l' vs') : relL ρ I w (l ++ l') (vs ++ vs') := by
  induction l generalizing vs with
  | nil => rw [relL_nil] at h; subst h; simpa using h'
  | cons a as ih =>
    obtain ⟨x, xs, rfl, h1, h2⟩ := relL_cons.1 h
    exact relL_cons.2 ⟨x, xs ++ vs', rfl, h1, ih h2⟩

theorem relL_drop {l : List AV} {vs : List Value} (h : relL ρ I w l vs) (n : Nat) : relL ρ I w (l.drop n) (vs.drop n) := by
  obtain ⟨h1, h2⟩ := relL_iff.1 h
  refine relL_iff.2 ⟨by simp [h1], fun i a x ha hx => h2 (n + i) a x ?_ ?_⟩
  · simpa using ha
  · simpa using hx

theorem relL_take {l : List AV} {vs : List Value} (h : relL ρ I w l vs) (n : Nat) : relL ρ I w (l.take n) (vs.take n) := by
  obtain ⟨h1, h2⟩ := relL_iff.1 h
  refine relL_iff.2 ⟨by simp [h1], fun i a x ha hx => h2 i a x ?_ ?_⟩
  · rw [List.getElem?_take] at ha; split at ha <;> simp_all
  · rw [List.getElem?_take] at hx; split at hx <;> simp_all

theorem relL_set {l : List AV} {vs : List Value} (h : relL ρ I w l vs) (n : Nat) {a : AV} {x : Value} (ha : rel ρ I w a x) : relL ρ I w (l.set n a) (vs.set n x) := by
  obtain ⟨h1, h2⟩ := relL_iff.1 h
  refine relL_iff.2 ⟨by simp [h1], fun i b y hb hy => ?_⟩
  rw [List.getElem?_set] at hb hy
  by_cases e : n = i
  · simp only [e, if_true] at hb hy
    split at hb <;> split at hy <;> simp_all
  · simp only [e, if_false] at hb hy
    exact h2 i b y hb hy

theorem relL_replicate {a : AV} {x : Value} (h : rel ρ I w a x) (n : Nat) : relL ρ I w (List.replicate n a) (List.replicate n x) := by
  refine relL_iff.2 ⟨by simp, fun i b y hb hy => ?_⟩
  rw [List.getElem?_replicate] at hb hy
  split at hb <;> simp_all

end lists

/-- An entry of the abstract memory. 'res': a number for a block that is still to be made. 'blk': a block of just these cells. 'grow': a block that begins with these cells (or none at all, if there are none). 'frz': the places that are written no more. -/
inductive Ent where
  | dead
  | res
  | blk (cells : List AV) (frz : List (Nat × Nat))
  | grow (cells : List AV) (frz : List (Nat × Nat))
  deriving Inhabited

def Ent.live : Ent → Bool
  | .dead => false
  | .res => false
  | _ => true

def Ent.frz : Ent → List (Nat × Nat)
  | .dead => []
  | .res => []
  | .blk _ f => f
  | .grow _ f => f

def inFrz (f : List (Nat × Nat)) (o : Nat) : Prop := ∃ r ∈ f, r.1 ≤ o ∧ o < r.2

abbrev Heap := List Ent

def Own (ρ : Rho) (H : Heap) (b : Nat) : Prop := ∃ id e, H[id]? = some e ∧ e.live = true ∧ ρ id = some (some b)
def Mut (ρ : Rho) (H : Heap) (b o : Nat) : Prop := ∃ id e, H[id]? = some e ∧ e.live = true ∧ ρ id = some (some b) ∧ ¬ inFrz e.frz o

theorem Mut.own {ρ : Rho} {H : Heap} {b o : Nat} (h : Mut ρ H b o) : Own ρ H b :=
  let ⟨id, e, h1, h2, h3, _⟩ := h; ⟨id, e, h1, h2, h3⟩

/-- The model's mark of bytes that a string shares lies behind all cells. -/
def clear (fr : Nat × Nat) (n : Nat) : Prop := ∀ o, o < n → ¬ (fr.1 ≤ o ∧ o < fr.2)

/-- What kind of function it is: one with a body, or one of those that the model stands in for. -/
inductive FK where
  | go | add64 | sub64 | bad
  deriving DecidableEq, Inhabited

/-- What the package-level variables hold, and the kinds of functions. -/
structure Glob where
  g : Nat → Option (List AV)
  x : Nat → FK

structure Conc (G : Glob) (ρ : Rho) (I : Imm) (H : Heap) (w : World) : Prop where
  dom : ∀ id, ρ id ≠ none → id < H.length
  res : ∀ id, H[id]? = some .res → ρ id = none
  blt : ∀ id b, ρ id = some (some b) → b < w.heap.size
  inj : ∀ (i j b : Nat) (e e' : Ent), H[i]? = some e → e.live = true → H[j]? = some e' → e'.live = true → ρ i = some (some b) → ρ j = some (some b) → i = j
  blk : ∀ id c f, H[id]? = some (.blk c f) → ∃ b el fr cs, ρ id = some (some b) ∧ w.heap[b]? = some (.cells (List.toArray cs) el fr) ∧ relL ρ I w c cs ∧ clear fr cs.length
  grow : ∀ id c f, H[id]? = some (.grow c f) → (ρ id = some none ∧ c = []) ∨
    ∃ b el fr cs rest, ρ id = some (some b) ∧ w.heap[b]? = some (.cells (List.toArray (cs ++ rest)) el fr) ∧ relL ρ I w c cs ∧ clear fr (cs ++ rest).length
  imm : ∀ b o, I b o → b < w.heap.size ∧ ¬ Mut ρ H b o
  glob : ∀ g c, G.g g = some c → ∃ vs, relL (fun _ => none) I w c vs ∧ Lies I w g 0 vs

structure Good (ρ : Rho) (I : Imm) (H : Heap) (w : World) (ρ' : Rho) (I' : Imm) (H' : Heap) (w' : World) : Prop where
  ext : ∀ id x, ρ id = some x → ρ' id = some x
  len : H.length ≤ H'.length
  imm : ∀ b o, I b o → I' b o
  imm' : ∀ b o, b < w.heap.size → I' b o → I b o ∨ Mut ρ H b o
  os : w'.os = w.os
  tape : w'.tape = w.tape
  out : w'.output = w.output
  size : w.heap.size ≤ w'.heap.size
  cell : ∀ b o, b < w.heap.size → ¬ Mut ρ H b o → w'.cell? ⟨b, o, none⟩ = w.cell? ⟨b, o, none⟩
  block : ∀ b, b < w.heap.size → (∀ o, ¬ Mut ρ H b o) → w'.heap[b]? = w.heap[b]?
  bs : ∀ b, b < w.heap.size → bsz w' b = bsz w b
  wrt : ∀ b o, b < w.heap.size → Mut ρ' H' b o → Mut ρ H b o
  own : ∀ b, b < w.heap.size → Own ρ' H' b → Own ρ H b

theorem Good.refl (ρ : Rho) (I : Imm) (H : Heap) (w : World) : Good ρ I H w ρ I H w where
  ext := fun _ _ h => h
  len := Nat.le_refl _
  imm := fun _ _ h => h
  imm' := fun _ _ _ h => .inl h
  os := rfl
  tape := rfl
  out := rfl
  size := Nat.le_refl _
  cell := fun _ _ _ _ => rfl
  block := fun _ _ _ => rfl
  bs := fun _ _ => rfl
  wrt := fun _ _ _ h => h
  own := fun _ _ h => h

theorem Good.trans {ρ : Rho} {I : Imm} {H : Heap} {w : World} {ρ1 : Rho} {I1 : Imm} {H1 : Heap} {w1 : World} {ρ2 : Rho} {I2 : Imm} {H2 : Heap} {w2 : World}
    (a : Good ρ I H w ρ1 I1 H1 w1) (b : Good ρ1 I1 H1 w1 ρ2 I2 H2 w2) : Good ρ I H w ρ2 I2 H2 w2 where
  ext := fun id x h => b.ext id x (a.ext id x h)
  len := Nat.le_trans a.len b.len
  imm := fun x o h => b.imm _ _ (a.imm _ _ h)
  imm' := fun x o h k => by
    rcases b.imm' x o (Nat.lt_of_lt_of_le h a.size) k with g | g
    · exact a.imm' x o h g
    · exact .inr (a.wrt x o h g)
  os := b.os.trans a.os
  tape := b.tape.trans a.tape
  out := b.out.trans a.out
  size := Nat.le_trans a.size b.size
  cell := fun x o h k => (b.cell x o (Nat.lt_of_lt_of_le h a.size) (fun g => k (a.wrt x o h g))).trans (a.cell x o h k)
  block := fun x h k => (b.block x (Nat.lt_of_lt_of_le h a.size) (fun o g => k o (a.wrt x o h g))).trans (a.block x h k)
  bs := fun x h => (b.bs x (Nat.lt_of_lt_of_le h a.size)).trans (a.bs x h)
  wrt := fun x o h g => a.wrt x o h (b.wrt x o (Nat.lt_of_lt_of_le h a.size) g)
  own := fun x h g => a.own x h (b.own x (Nat.lt_of_lt_of_le h a.size) g)

theorem Conc.mono {G : Glob} {ρ : Rho} {I : Imm} {H : Heap} {w : World} {ρ' : Rho} {I' : Imm} {H' : Heap} {w' : World}
    (c : Conc G ρ I H w) (g : Good ρ I H w ρ' I' H' w') : Mono ρ I w ρ' I' w' where
  ext := g.ext
  imm := fun b o h => by
    obtain ⟨h1, h2⟩ := c.imm b o h
    exact ⟨g.imm b o h, g.cell b o h1 h2⟩
  sz := fun b h => ⟨Nat.lt_of_lt_of_le h g.size, g.bs b h⟩

/-- The temporaries of a frame. -/
structure RelT (ρ : Rho) (I : Imm) (w : World) (t : List AV) (a : Act) : Prop where
  tr : relL ρ I w t a.tmps.toList
  defers : a.defers = []

theorem RelT.mono {ρ : Rho} {I : Imm} {w : World} {ρ' : Rho} {I' : Imm} {w' : World} (m : Mono ρ I w ρ' I' w') {t : List AV} {a : Act} (h : RelT ρ I w t a) : RelT ρ' I' w' t a :=
  ⟨relL_mono m _ _ h.tr, h.defers⟩

structure St where
  t : List AV
  H : Heap

def ofInt (k : IntKind) (n : Int) : AV :=
  match k with
  | .u8 => if 0 ≤ n ∧ n < 256 then .u8 (UInt8.ofNat n.toNat) else .int k n
  | .u32 => if 0 ≤ n ∧ n < 4294967296 then .u32 (UInt32.ofNat n.toNat) else .int k n
  | .u64 => if 0 ≤ n ∧ n < 18446744073709551616 then .u64 (UInt64.ofNat n.toNat) else .int k n
  | _ => .int k n

theorem rel_ofInt {ρ : Rho} {I : Imm} {w : World} (k : IntKind) (n : Int) : rel ρ I w (ofInt k n) (.int k n) := by
  cases k <;> simp only [ofInt]
  case u8 => split
             · rename_i h; simp only [rel, Value.int.injEq, true_and, UInt8.toNat_ofNat']; omega
             · simp [rel]
  case u32 => split
              · rename_i h; simp only [rel, Value.int.injEq, true_and, UInt32.toNat_ofNat']; omega
              · simp [rel]
  case u64 => split
              · rename_i h; simp only [rel, Value.int.injEq, true_and, UInt64.toNat_ofNat']; omega
              · simp [rel]
  all_goals simp [rel]

def ofVal1 : Value → AV
  | .int k n => ofInt k n
  | .bool b => .bool b
  | .string s => .str s.data.toList
  | .slice none 0 0 => .vec true 0 []
  | v => .raw v

def ofVal : Value → AV
  | .agg cs => .agg (cs.toList.map ofVal1)
  | v => ofVal1 v

theorem rel_ofVal1 {ρ : Rho} {I : Imm} {w : World} (v : Value) : rel ρ I w (ofVal1 v) v := by
  unfold ofVal1
  split
  · exact rel_ofInt _ _
  · simp [rel]
  · simp [rel]
  · exact ⟨none, 0, rfl, Nat.le_refl _, fun _ => rfl, .inl ⟨rfl, rfl, rfl⟩⟩
  · simp [rel]

theorem relL_map {ρ : Rho} {I : Imm} {w : World} (f : Value → AV) (h : ∀ v, rel ρ I w (f v) v) (l : List Value) : relL ρ I w (l.map f) l := by
  induction l with
  | nil => simp [relL]
  | cons x xs ih => exact relL_cons.2 ⟨x, xs, rfl, h x, ih⟩

theorem rel_ofVal {ρ : Rho} {I : Imm} {w : World} (v : Value) : rel ρ I w (ofVal v) v := by
  unfold ofVal
  split
  · exact ⟨_, rfl, relL_map _ rel_ofVal1 _⟩
  · exact rel_ofVal1 _

/-- An operand's abstract value. -/
def evA (G : Glob) (t : List AV) : Operand → AV
  | .tmp i => t.getD i .any
  | .const v => ofVal v
  | .global g => match G.g g with
    | some c => .vp c 0
    | none => .raw (.pointer (some ⟨g, 0, none⟩))
  | .func f => .fn (.func f) [] []

theorem rel_evA {G : Glob} {ρ : Rho} {I : Imm} {H : Heap} {w : World} {t : List AV} {a : Act} (c : Conc G ρ I H w) (h : RelT ρ I w t a) (x : Operand) :
    rel ρ I w (evA G t x) (a.eval x) := by
  cases x with
  | tmp i =>
    have := relL_getD h.tr i
    simpa [evA, Act.eval, Array.getD_eq_getD_getElem?, List.getD_eq_getElem?_getD] using this
  | const v => exact rel_ofVal v
  | global g =>
    simp only [evA, Act.eval]
    cases hg : G.g g with
    | none => simp [rel]
    | some cs =>
      obtain ⟨vs, h1, h2⟩ := c.glob g cs hg
      exact ⟨g, 0, vs, rfl, relL_mono ⟨fun _ _ h => by simp at h, fun _ _ h => ⟨h, rfl⟩, fun _ h => ⟨h, rfl⟩⟩ _ _ h1, h2⟩
  | func f => exact ⟨#[], #[], rfl, by simp [relL], by simp [relL]⟩

end Go.Ab
