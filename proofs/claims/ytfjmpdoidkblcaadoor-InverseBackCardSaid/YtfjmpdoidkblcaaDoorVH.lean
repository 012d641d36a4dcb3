/- The abstract layer (second state), part H: operations. -/
import Derived.Test.YtfjmpdoidkblcaaDoorVG
set_option linter.unusedSimpArgs false
set_option linter.unusedVariables false
namespace Go.V
open Go
noncomputable section

def ofInt (k : IntKind) (n : Int) : AV :=
  match k with
  | .u8 => bif inB n 256 then .u8 (UInt8.ofNat n.toNat) else .int k n
  | .u32 => bif inB n 4294967296 then .u32 (UInt32.ofNat n.toNat) else .int k n
  | .u64 => bif inB n 18446744073709551616 then .u64 (UInt64.ofNat n.toNat) else .int k n
  | _ => .int k n

def ofVal : Value → AV
  | .int k n => ofInt k n
  | .bool b => .bool b
  | .string s => .str s.data.toList
  | .slice none 0 0 => .vec8 true []
  | v => .raw v

theorem rel_ofInt {ρ : Rho} {I : Imm} {w : World} (k : IntKind) (n : Int) : rel ρ I w (ofInt k n) (.int k n) := by
  cases k <;> simp only [ofInt] <;> try exact rel_int.2 rfl
  case u8 =>
    cases h : inB n 256
    · exact rel_int.2 rfl
    · have := inB_iff.1 h
      rw [cond_true, rel_u8]; simp only [Value.int.injEq, true_and, UInt8.toNat_ofNat']; omega
  case u32 =>
    cases h : inB n 4294967296
    · exact rel_int.2 rfl
    · have := inB_iff.1 h
      rw [cond_true, rel_u32]; simp only [Value.int.injEq, true_and, UInt32.toNat_ofNat']; omega
  case u64 =>
    cases h : inB n 18446744073709551616
    · exact rel_int.2 rfl
    · have := inB_iff.1 h
      rw [cond_true, rel_u64]; simp only [Value.int.injEq, true_and, UInt64.toNat_ofNat']; omega

theorem rel_nil8 {ρ : Rho} {I : Imm} {w : World} {f : Bool} : rel ρ I w (.vec8 f []) (.slice none 0 0) :=
  rel_vec8.2 ⟨none, 0, rfl, Nat.le_refl _, fun _ => rfl, .inl rfl⟩

theorem rel_ofVal {ρ : Rho} {I : Imm} {w : World} (v : Value) : rel ρ I w (ofVal v) v := by
  unfold ofVal
  split
  · exact rel_ofInt _ _
  · exact rel_bool.2 rfl
  · rw [rel_str]
  · exact rel_nil8
  · exact rel_raw.2 rfl

section
variable {P : Program} (G : Env P)

/-- An operand's abstract value. -/
def evA (t : List AV) : Operand → AV
  | .tmp i => t.getD i .any
  | .const v => ofVal v
  | .global g => match G.g g with
    | some c => .vp c 0
    | none => .raw (.pointer (some ⟨g, 0, none⟩))
  | .func f => .fn (.func f) [] []

def sliceL {α : Type} (lo hi : Option Int) (l : List α) : List α :=
  match lo, hi with
  | none, none => l
  | none, some h => l.take h.toNat
  | some l0, none => l.drop l0.toNat
  | some l0, some h => (l.take h.toNat).drop l0.toNat

/-- Are these bounds of a slice in order? -/
def sliceOk (lo hi : Option Int) (len : Nat) : Bool :=
  match lo, hi with
  | none, none => true
  | none, some h => nnB h && leB h.toNat len
  | some l, none => nnB l && leB l.toNat len
  | some l, some h => (nnB l && leB l.toNat h.toNat) && (nnB h && leB h.toNat len)

def optI (ev : Operand → AV) : Option Operand → Option (Option Int)
  | none => some none
  | some o => match (ev o).toI with
    | some (_, n) => some (some n)
    | none => none

def loN : Option Int → Nat
  | none => 0
  | some l => l.toNat
def hiN (len : Nat) : Option Int → Nat
  | none => len
  | some h => h.toNat

/-- A slice of a string, of a slice, of an array behind an address. -/
def aSlice (ti : TI) (H : Heap) (x : AV) (lo hi : Option Int) : Option (Bool × AV) :=
  match ti.kind, x with
  | .string, .str s => some (sliceOk lo hi s.length, .str (sliceL lo hi s))
  | .slice _, .vec8 full l => some (sliceOk lo hi l.length, .vec8 (full && hi.isNone) (sliceL lo hi l))
  | .slice e, .vec full k rows => match G.ty e with
    | some te => some (sliceOk lo hi rows.length && te.size == k, .vec (full && hi.isNone) k (sliceL lo hi rows))
    | none => none
  | .slice e, .sl id off k len => match G.ty e with
    | some te => some (sliceOk lo hi len && te.size == k, .sl id (off + loN lo * k) k (hiN len hi - loN lo))
    | none => none
  | .ptr a, .ptr id off => match G.ty a with
    | some ta => match ta.kind with
      | .arr n e => match G.ty e with
        | some te => match entCells H id with
          | some c => some ((sliceOk lo hi n && leB (off + n * te.size) (szL c)) && te.size != 0, .sl id (off + loN lo * te.size) te.size (hiN n hi - loN lo))
          | none => none
        | none => none
      | _ => none
    | none => none
  | _, _ => none

def aConvert (ts td : TI) (H : Heap) (x : AV) : Option (Bool × AV) :=
  match ts.kind, td.kind with
  | .int _, .int k => match cvt k x with
    | some v => some (true, v)
    | none => none
  | .string, .string => match x with
    | .str s => some (true, .str s)
    | _ => none
  | .slice e, .string => match G.ty e with
    | some te => match te.kind with
      | .int .u8 => match content8 H x with
        | some (p, l) => some (p, .str l)
        | none => none
      | _ => none
    | none => none
  | _, _ => none

def aval0 (op : Op) (ev : Operand → AV) (H : Heap) : Option (Bool × AV) :=
  match op with
  | .move x => some (true, ev x)
  | .assign x => some (true, ev x)
  | .pick c a b => match ev c with
    | .bool r => some (true, pickA r (ev a) (ev b))
    | _ => none
  | .extract t i => match ev t with
    | .tup l => some (ltB i l.length, l.getD i .any)
    | _ => none
  | .load t a => match G.ty t with
    | some ti => aload ti H (ev a)
    | none => none
  | .fieldAddr s x f => match G.ty s with
    | some ts => match ts.kind with
      | .str fs => match fs[f]? with
        | some (off, ft) => match G.ty ft with
          | some tf => match addrAdd off (ev x) with
            | some v => some (tf.size != 0, v)
            | none => none
          | none => none
        | none => none
      | _ => none
    | none => none
  | .indexAddr t x i => match (ev i).toI with
    | some (_, n) => match G.ty t with
      | some ti => aIndexAddr G ti (ev x) n
      | none => none
    | none => none
  | .index t x i => match (ev i).toI with
    | some (_, n) => match G.ty t with
      | some ti => aIndex G ti (ev x) n
      | none => none
    | none => none
  | .field t x f => match G.ty t with
    | some ti => aField G ti (ev x) f
    | none => none
  | .binOp op t x y _ => aBin G op t (ev x) (ev y)
  | .unOp op _ x => match aUn op (ev x) with
    | some v => some (true, v)
    | none => none
  | .convert s d x => match G.ty s with
    | some ts => match G.ty d with
      | some td => aConvert G ts td H (ev x)
      | none => none
    | none => none
  | .makeFunc fn first caps => some (true, .fn fn (first.toList.map ev) (caps.toList.map ev))
  | .nilCheck x => match ev x with
    | .ptr id off => some (true, .ptr id off)
    | .vp c i => some (true, .vp c i)
    | .fn (.func f) a b => some (true, .fn (.func f) a b)
    | _ => none
  | .call c => match c.callee with
    | .value fo => match ev fo with
      | .fn (.func f) [] [] => aext (G.x f) (c.args.toList.map ev)
      | _ => none
    | .builtin .len => match c.args.toList.map ev, c.argTypes[0]? with
      | [x], some t => match G.ty t with
        | some ti => match alen ti.kind x with
          | some v => some (true, v)
          | none => none
        | none => none
      | _, _ => none
    | .builtin .min => match aminmax false (c.args.toList.map ev) with
      | some v => some (true, v)
      | none => none
    | .builtin .max => match aminmax true (c.args.toList.map ev) with
      | some v => some (true, v)
      | none => none
    | _ => none
  | .build t parts => abuild G t (parts.toList.map fun p => (p.1, ev p.2))
  | _ => none

/-- A call of a function, and with what. -/
def acall (op : Op) (ev : Operand → AV) : Option (FuncId × List AV) :=
  match op with
  | .call c => match c.callee with
    | .value fo => match ev fo with
      | .fn (.func f) first caps => some (f, first ++ (c.args.toList.map ev ++ caps))
      | _ => none
    | _ => none
  | _ => none

/-- An entry with other cells. -/
def updEnt : Ent → List AV → Option Ent
  | .blk _ f, c => some (.blk c f)
  | .grow8 l f, c => match c with
    | [.b8 _ l'] => some (.grow8 l' f)
    | _ => none
  | _, _ => none

/-- A store: its condition, which entry, and what that becomes. -/
def astore (op : Op) (ev : Operand → AV) (H : Heap) : Option (Bool × Nat × Ent) :=
  match op with
  | .store t a x => match G.ty t with
    | some ti => match ev a with
      | .ptr id off => match H[id]? with
        | some e => match updEnt e (setL e.cells off (ev x)) with
          | some e' => some ((((known (ev x) && oneA (ev x)) && (szA (ev x) == ti.size && ti.size != 0)) && leB (off + ti.size) (szL e.cells)) && frzFree e.frz off ti.size, id, e')
          | none => none
        | none => none
      | .pix id off n i => match H[id]? with
        | some e => match setX1 e.cells off n i (ev x) with
          | some c => match updEnt e c with
            | some e' => some ((((known (ev x) && oneA (ev x)) && (szA (ev x) == 1 && ti.size == 1)) && (leB (off + n) (szL e.cells) && !isAg (ev x))) && frzFree e.frz off n, id, e')
            | none => none
          | none => none
        | none => none
      | _ => none
    | none => none
  | _ => none

def isAlloc : Op → Option TypeId
  | .alloc t => some t
  | _ => none

/-- Operations that make or write memory: a condition, the value, the memory, and which references are forgotten. -/
def aeff (op : Op) (ev : Operand → AV) (H : Heap) : Option (Bool × AV × Heap × Option Nat) :=
  match op with
  | .alloc t => match G.ty t with
    | some ti => match ti.zero with
      | some z => some (known z, .ptr H.length 0, H ++ [.blk z.cells []], none)
      | none => none
    | none => none
  | .box _ x => some (known (ev x), .ptr H.length 0, H ++ [.blk (ev x).cells []], none)
  | .store t a x => match astore G (.store t a x) ev H with
    | some (c, id, e) => some (c, .tup [], H.set id e, none)
    | none => none
  | _ => none

end

section
variable {P : Program} {G : Env P} {ρ : Rho} {I : Imm} {H : Heap} {w : World}

theorem rel_evA (c : Conc G.g ρ I H w) {t : List AV} {a : Act} (h : RelT ρ I w t a) (x : Operand) : rel ρ I w (evA G t x) (a.eval x) := by
  cases x with
  | tmp i =>
    have := RV_getD h.tr i
    simpa [evA, Act.eval, Array.getD_eq_getD_getElem?, List.getD_eq_getElem?_getD] using this
  | const v => exact rel_ofVal v
  | global n =>
    simp only [evA, Act.eval]
    cases hg : G.g n with
    | none => exact rel_raw.2 rfl
    | some cs =>
      obtain ⟨vs, h1, h2⟩ := c.glob n cs hg
      exact rel_vp.2 ⟨vs, RL_mono ⟨fun _ _ h => by simp at h, fun _ _ h => ⟨h, rfl⟩, fun _ h => ⟨h, rfl⟩⟩ _ _ h1, n, 0, rfl, h2⟩
  | func f => exact rel_fn.2 ⟨#[], #[], rfl, by simp [RV], by simp [RV]⟩

theorem mapArr {α β : Type} (f : α → β) (xs : Array α) : (xs.toList.map f).toArray = xs.map f := by
  rw [← Array.toList_map, Array.toArray_toList]

theorem run_call_value {e : Operand → Value} {o : Oper} {c : Call} {fo : Operand} (hop : o.op = .call c) (hc : c.callee = .value fo) {f : FuncId} {first caps : Array Value} (hf : e fo = .func (.func f) first caps) :
    (execOp e o).run P w = (callFunc f (first ++ c.args.map e ++ caps)).run P w := by
  simp [execOp, hop, resolve, hc, Deferred.ofValue, hf, invoke]

theorem run_call_builtin {e : Operand → Value} {o : Oper} {c : Call} {b : Builtin} (hop : o.op = .call c) (hc : c.callee = .builtin b) :
    (execOp e o).run P w = (builtin b c.argTypes o.type (c.args.map fun | .const _ => true | _ => false) (c.args.map e)).run P w := by
  simp [execOp, hop, resolve, hc, invoke]
  rfl

theorem RV_mapev2 {ev : Operand → AV} {e : Operand → Value} (r : ∀ x, rel ρ I w (ev x) (e x)) : ∀ (l : List (Nat × Operand)),
    RV ρ I w (l.map ((fun p : Nat × AV => p.2) ∘ fun p => (p.1, ev p.2))) (l.map ((fun p : Nat × Value => p.2) ∘ fun p => (p.1, e p.2)))
  | [] => by simp [RV]
  | p :: l => by rw [List.map_cons, List.map_cons]; exact RV_cons.2 ⟨_, _, rfl, r p.2, RV_mapev2 r l⟩
theorem fold_splice : ∀ (l : List Value) (k off : Nat) (cs : Array Value), off + k + l.length ≤ cs.size →
    ((l.zipIdx k).foldl (fun cs (p : Value × Nat) => cs.setIfInBounds (off + p.2) p.1) cs).toList = spliceV cs.toList (off + k) l
  | [], k, off, cs, h => by simp [spliceV]
  | x :: l, k, off, cs, h => by
    rw [List.zipIdx_cons, List.foldl_cons, fold_splice l (k + 1) off _ (by simp at h ⊢; omega)]
    simp only [Array.toList_setIfInBounds]
    rw [show off + (k + 1) = off + k + 1 by omega, spliceV_cons' _ _ _ _ (by simp at h ⊢; omega)]

theorem afill_sound {place place' : Nat → Option (Nat × Nat)} : ∀ {parts : List (Nat × AV)} {vparts : List (Nat × Value)} {cells : List AV} {vs : Array Value} {c : Bool} {l : List AV},
    parts.map (·.1) = vparts.map (·.1) → RV ρ I w (parts.map (·.2)) (vparts.map (·.2)) → (∀ p ∈ parts, ∀ q, place p.1 = some q → place' p.1 = some q) → RL ρ I w cells vs.toList → afill place cells parts = some (c, l) → c = true →
    ∃ out, Instr.fill place' vs vparts = some out ∧ RL ρ I w l out.toList
  | [], vparts, cells, vs, c, l, hi, hr, hpl, hc, h, hcc => by
    cases vparts with
    | nil => simp [afill] at h; obtain ⟨_, rfl⟩ := h; exact ⟨vs, rfl, hc⟩
    | cons => simp at hi
  | (i, v) :: parts, vparts, cells, vs, c, l, hi, hr, hpl, hc, h, hcc => by
    cases vparts with
    | nil => simp at hi
    | cons q vparts =>
      obtain ⟨i', x⟩ := q
      simp only [List.map_cons, List.cons.injEq] at hi
      obtain ⟨rfl, hi⟩ := hi
      obtain ⟨x', xs', hxe, hr1, hr2⟩ := RV_cons.1 hr
      simp only [List.map_cons, List.cons.injEq] at hxe
      obtain ⟨rfl, rfl⟩ := hxe
      unfold afill at h
      split at h
      · simp at h
      · rename_i off size hp
        split at h
        · rename_i c' l' hf
          simp only [Option.some.injEq, Prod.mk.injEq] at h
          obtain ⟨rfl, rfl⟩ := h
          simp only [Bool.and_eq_true, beq_iff_eq] at hcc
          obtain ⟨⟨hk, hlen, hin, hz⟩, hc'⟩ := hcc
          have hin := leB_iff.1 hin
          have rc := known_cells hr1 hk
          have lc := R_len _ _ rc
          have lv := RL_len _ _ hc
          have hp' := hpl (i, v) (by simp) _ hp
          simp only [Array.length_toList] at lc lv
          have e : (x.cells.zipIdx.foldl (fun cs (p : Value × Nat) => cs.setIfInBounds (off + p.2) p.1) vs).toList = spliceV vs.toList off x.cells.toList := by
            rw [← Array.foldl_toList, Array.toList_zipIdx, fold_splice _ _ _ _ (by simp; omega)]; rfl
          have hs : RL ρ I w (setL cells off v) (x.cells.zipIdx.foldl (fun cs (p : Value × Nat) => cs.setIfInBounds (off + p.2) p.1) vs).toList := by
            rw [e]
            have hz' : size ≠ 0 := by simpa using hz
            exact RL_set _ _ _ _ _ hc rc (by omega) (by omega)
          obtain ⟨out, h1, h2⟩ := afill_sound hi hr2 (fun p hp => hpl p (by simp [hp])) hs hf hc'
          refine ⟨out, ?_, h2⟩
          unfold Instr.fill
          simp only [hp']
          rw [if_neg (by simp; omega)]
          exact h1
        · simp at h
end
end
end Go.V
