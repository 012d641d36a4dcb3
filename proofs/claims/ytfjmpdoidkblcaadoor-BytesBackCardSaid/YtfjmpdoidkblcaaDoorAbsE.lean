/- The abstract layer, part E: memory that is made and written. -/
import Derived.Test.YtfjmpdoidkblcaaDoorAbsC
import Derived.Test.YtfjmpdoidkblcaaDoorAbsD
import Derived.Deep.MidRow
set_option linter.unusedSimpArgs false
set_option linter.unusedVariables false
namespace Go.Ab
open Go

section
variable {P : Program} {G : Glob} {ρ : Rho} {I : Imm} {H : Heap} {w : World}

theorem rel_cells {a : AV} {v : Value} (r : rel ρ I w a v) (ha : a ≠ .any) (hr : ∀ x, a ≠ .raw x) : relL ρ I w a.cells v.cells.toList := by
  cases a with
  | any => exact absurd rfl ha
  | raw x => exact absurd rfl (hr x)
  | agg l => obtain ⟨cs, rfl, h⟩ := r; exact h
  | tup l => obtain ⟨cs, rfl, h⟩ := r; exact ⟨_, _, rfl, ⟨cs, rfl, h⟩, rfl⟩
  | int k n => obtain rfl := r; exact ⟨_, _, rfl, rfl, rfl⟩
  | u8 x => obtain rfl := r; exact ⟨_, _, rfl, rfl, rfl⟩
  | u32 x => obtain rfl := r; exact ⟨_, _, rfl, rfl, rfl⟩
  | u64 x => obtain rfl := r; exact ⟨_, _, rfl, rfl, rfl⟩
  | bool b => obtain rfl := r; exact ⟨_, _, rfl, rfl, rfl⟩
  | str s => obtain rfl := r; exact ⟨_, _, rfl, rfl, rfl⟩
  | ptr id off => obtain ⟨b, h, rfl⟩ := r; exact ⟨_, _, rfl, ⟨b, h, rfl⟩, rfl⟩
  | sl id off sz len => rcases r with ⟨b, cap, h1, rfl, h2⟩ | ⟨h1, h2, h3, rfl⟩
                        · exact ⟨_, _, rfl, .inl ⟨b, cap, h1, rfl, h2⟩, rfl⟩
                        · exact ⟨_, _, rfl, .inr ⟨h1, h2, h3, rfl⟩, rfl⟩
  | vec full len cells => obtain ⟨a, cap, rfl, h⟩ := r; exact ⟨_, _, rfl, ⟨a, cap, rfl, h⟩, rfl⟩
  | vp cells i => obtain ⟨b, off, vs, rfl, h⟩ := r; exact ⟨_, _, rfl, ⟨b, off, vs, rfl, h⟩, rfl⟩
  | fn f x y => obtain ⟨x, y, rfl, h⟩ := r; exact ⟨_, _, rfl, ⟨x, y, rfl, h⟩, rfl⟩

theorem rel_cells' {a : AV} {v : Value} (r : rel ρ I w a v) (ha : known a = true) : relL ρ I w a.cells v.cells.toList := by
  cases a with
  | any => simp [known] at ha
  | raw x =>
    obtain rfl := r
    refine ⟨v, [], ?_, rfl, rfl⟩
    cases v <;> simp_all [known, Value.oneCell', Value.cells]
  | _ => exact rel_cells r (by simp) (by simp)

theorem oneA_sound {a : AV} {v : Value} (r : rel ρ I w a v) (h : oneA a = true) : v.oneCell' = true := by
  cases a with
  | any => simp [oneA] at h
  | raw x => obtain rfl := r; simpa [oneA] using h
  | agg l => simp [oneA] at h
  | tup l => simp [oneA] at h
  | ptr id off => obtain ⟨b, h, rfl⟩ := r; rfl
  | sl id off sz len => rcases r with ⟨b, cap, h1, rfl, h2⟩ | ⟨h1, h2, h3, rfl⟩ <;> rfl
  | vec full len cells => obtain ⟨a, cap, rfl, h⟩ := r; rfl
  | vp cells i => obtain ⟨b, off, vs, rfl, h⟩ := r; rfl
  | fn f x y => obtain ⟨x, y, rfl, h⟩ := r; rfl
  | _ => obtain rfl := r; rfl

theorem oneL_sound {l : List AV} {vs : List Value} (r : relL ρ I w l vs) (h : l.all oneA = true) : ∀ v ∈ vs, v.oneCell' = true := by
  induction l generalizing vs with
  | nil => rw [relL_nil] at r; subst r; simp
  | cons a as ih =>
    obtain ⟨x, xs, rfl, h1, h2⟩ := relL_cons.1 r
    simp only [List.all_cons, Bool.and_eq_true] at h
    intro v hv
    rcases List.mem_cons.1 hv with rfl | hv
    · exact oneA_sound h1 h.1
    · exact ih h2 h.2 v hv

/-- The abstract memory's numbers, one more. -/
def bindR (ρ : Rho) (n : Nat) (x : Option Nat) : Rho := fun id => if id = n then some x else ρ id

theorem getElem?_snoc {α : Type} {l : List α} {e x : α} {i : Nat} (h : (l ++ [e])[i]? = some x) : (i < l.length ∧ l[i]? = some x) ∨ (i = l.length ∧ x = e) := by
  rcases Nat.lt_or_ge i l.length with hi | hi
  · left; rw [List.getElem?_append_left hi] at h; exact ⟨hi, h⟩
  · right
    rw [List.getElem?_append_right hi] at h
    have : i - l.length = 0 := by
      have := (List.getElem?_eq_some_iff.1 h).1
      simpa using this
    rw [this] at h
    simp at h
    exact ⟨by omega, h.symm⟩

theorem alloc_old (w : World) (o : Obj) {i : Nat} (h : i < w.heap.size) : (w.alloc o).heap[i]? = w.heap[i]? := by
  show (w.heap.push o)[i]? = _
  rw [Array.getElem?_push, if_neg (by omega)]

theorem alloc_new (w : World) (o : Obj) : (w.alloc o).heap[w.heap.size]? = some o := by
  show (w.heap.push o)[w.heap.size]? = _
  simp

theorem bsz_alloc (w : World) (o : Obj) {b : Nat} (h : b < w.heap.size) : bsz (w.alloc o) b = bsz w b := by
  unfold bsz; rw [alloc_old w o h]

theorem cell_alloc (w : World) (o : Obj) {b : Nat} (h : b < w.heap.size) (off : Nat) : (w.alloc o).cell? ⟨b, off, none⟩ = w.cell? ⟨b, off, none⟩ :=
  World.cell?_alloc_lt _ _ _ h

/-- A block is made. -/
theorem bindR_old {ρ : Rho} {n id : Nat} {x : Option Nat} {y : Option Nat} (hn : ρ n = none) (h : ρ id = some y) : bindR ρ n x id = some y := by
  simp only [bindR]
  split
  · rename_i e; subst e; rw [hn] at h; simp at h
  · exact h

theorem push_good (hn : ρ H.length = none) (e : Ent) (x : Option Nat) (hx : ∀ b, x = some b → b = w.heap.size) (o : Obj) :
    Good ρ I H w (bindR ρ H.length x) I (H ++ [e]) (w.alloc o) where
  ext := fun id x h => bindR_old hn h
  len := by simp
  imm := fun _ _ h => h
  imm' := fun _ _ _ h => .inl h
  os := rfl
  tape := rfl
  out := rfl
  size := by simp
  cell := fun b off h _ => cell_alloc w o h off
  block := fun b h _ => alloc_old w o h
  bs := fun b h => bsz_alloc w o h
  wrt := fun b off h ⟨id, e', h1, h2, h3, h4⟩ => by
    rcases getElem?_snoc h1 with ⟨g1, g2⟩ | ⟨g1, g2⟩
    · simp only [bindR, Nat.ne_of_lt g1, if_false] at h3
      exact ⟨id, e', g2, h2, h3, h4⟩
    · subst g1
      simp only [bindR, if_true, Option.some.injEq] at h3
      have := hx b h3
      omega
  own := fun b h ⟨id, e', h1, h2, h3⟩ => by
    rcases getElem?_snoc h1 with ⟨g1, g2⟩ | ⟨g1, g2⟩
    · simp only [bindR, Nat.ne_of_lt g1, if_false] at h3
      exact ⟨id, e', g2, h2, h3⟩
    · subst g1
      simp only [bindR, if_true, Option.some.injEq] at h3
      have := hx b h3
      omega

theorem push_conc (c : Conc G ρ I H w) (e : Ent) (cells : List AV) (vs : List Value) (el : TypeId) (hr : relL ρ I w cells vs)
    (he : e = .blk cells [] ∨ e = .grow cells []) :
    Conc G (bindR ρ H.length (some w.heap.size)) I (H ++ [e]) (w.alloc (.cells vs.toArray el)) := by
  have hn : ρ H.length = none := Classical.byContradiction fun h => Nat.lt_irrefl _ (c.dom _ h)
  have g := push_good (ρ := ρ) (I := I) (H := H) hn e (some w.heap.size) (fun b h => by simpa using h.symm) (.cells vs.toArray el)
  have m := c.mono g
  have hnew : (w.alloc (.cells vs.toArray el)).heap[w.heap.size]? = some (.cells vs.toArray el (0, 0)) := alloc_new _ _
  refine ⟨?_, ?_, ?_, ?_, ?_, ?_, ?_, ?_⟩
  · intro id h
    simp only [bindR] at h
    split at h
    · rename_i h'; subst h'; simp
    · have := c.dom id h; simp; omega
  · intro id h
    rcases getElem?_snoc h with ⟨g1, g2⟩ | ⟨g1, g2⟩
    · simp only [bindR, Nat.ne_of_lt g1, if_false]; exact c.res id g2
    · rcases he with he | he <;> rw [he] at g2 <;> simp at g2
  · intro id b hb
    simp only [bindR] at hb
    split at hb
    · simp at hb; subst hb; simp
    · have := c.blt id b hb; simp; omega
  · intro i j b e1 e2 hi h1 hj h2 hbi hbj
    rcases getElem?_snoc hi with ⟨g1, g2⟩ | ⟨g1, g2⟩ <;> rcases getElem?_snoc hj with ⟨k1, k2⟩ | ⟨k1, k2⟩
    · simp only [bindR, Nat.ne_of_lt g1, Nat.ne_of_lt k1, if_false] at hbi hbj
      exact c.inj i j b e1 e2 g2 h1 k2 h2 hbi hbj
    · subst k1
      simp only [bindR, Nat.ne_of_lt g1, if_false] at hbi
      simp only [bindR, if_true, Option.some.injEq] at hbj
      have := c.blt i b hbi; omega
    · subst g1
      simp only [bindR, Nat.ne_of_lt k1, if_false] at hbj
      simp only [bindR, if_true, Option.some.injEq] at hbi
      have := c.blt j b hbj; omega
    · omega
  · intro id cs f h
    rcases getElem?_snoc h with ⟨g1, g2⟩ | ⟨g1, g2⟩
    · obtain ⟨b, el', fr, us, k1, k2, k3, k4⟩ := c.blk id cs f g2
      have hlt := c.blt id b k1
      refine ⟨b, el', fr, us, by simpa [bindR, Nat.ne_of_lt g1] using k1, by rw [alloc_old _ _ hlt]; exact k2, relL_mono m _ _ k3, k4⟩
    · subst g1
      rcases he with he | he
      · rw [he] at g2
        simp only [Ent.blk.injEq] at g2
        obtain ⟨rfl, rfl⟩ := g2
        exact ⟨w.heap.size, el, (0, 0), vs, by simp [bindR], hnew, relL_mono m _ _ hr, fun o _ => by simp⟩
      · rw [he] at g2; simp at g2
  · intro id cs f h
    rcases getElem?_snoc h with ⟨g1, g2⟩ | ⟨g1, g2⟩
    · rcases c.grow id cs f g2 with ⟨k1, k2⟩ | ⟨b, el', fr, us, rest, k1, k2, k3, k4⟩
      · exact .inl ⟨by simpa [bindR, Nat.ne_of_lt g1] using k1, k2⟩
      · have hlt := c.blt id b k1
        exact .inr ⟨b, el', fr, us, rest, by simpa [bindR, Nat.ne_of_lt g1] using k1, by rw [alloc_old _ _ hlt]; exact k2, relL_mono m _ _ k3, k4⟩
    · subst g1
      rcases he with he | he
      · rw [he] at g2; simp at g2
      · rw [he] at g2
        simp only [Ent.grow.injEq] at g2
        obtain ⟨rfl, rfl⟩ := g2
        exact .inr ⟨w.heap.size, el, (0, 0), vs, [], by simp [bindR], by simpa using hnew, relL_mono m _ _ hr, fun o _ => by simp⟩
  · intro b o hb
    obtain ⟨h1, h2⟩ := c.imm b o hb
    refine ⟨by simp; omega, fun h => h2 (g.wrt b o h1 h)⟩
  · intro gl cs h
    obtain ⟨us, h1, h2⟩ := c.glob gl cs h
    exact ⟨us, relL_mono m.none _ _ h1, h2.mono m.imm⟩

/-- The world with a block's cells written anew. -/
def rewr (w : World) (b : Nat) (o : Obj) : World := { w with heap := w.heap.setIfInBounds b o }

theorem heap_rewr {b : Nat} {o : Obj} (h : b < w.heap.size) (i : Nat) : (rewr w b o).heap[i]? = if i = b then some o else w.heap[i]? := by
  simp only [rewr, Array.getElem?_setIfInBounds]
  by_cases e : b = i
  · subst e; simp [h]
  · rw [if_neg e, if_neg (Ne.symm e)]

theorem write_good {id b : Nat} {el : TypeId} {fr : Nat × Nat} {all all' : List Value} {e e' : Ent} (hid : H[id]? = some e) (hl : e.live = true)
    (hb : ρ id = some (some b)) (hw : w.heap[b]? = some (.cells all.toArray el fr)) (hlen : all'.length = all.length) (hfz : ∀ o, inFrz e.frz o → all'[o]? = all[o]?)
    (he : e'.frz = e.frz) : Good ρ I H w ρ I (H.set id e') (rewr w b (.cells all'.toArray el fr)) := by
  have hlt : b < w.heap.size := (Array.getElem?_eq_some_iff.1 hw).1
  have hcell : ∀ b' o, ¬ Mut ρ H b' o → (rewr w b (.cells all'.toArray el fr)).cell? ⟨b', o, none⟩ = w.cell? ⟨b', o, none⟩ := by
    intro b' o hm
    by_cases hbb : b' = b
    · subst hbb
      have hin : inFrz e.frz o := by
        refine Classical.byContradiction fun hn => hm ⟨id, e, hid, hl, hb, hn⟩
      rw [cell_of_heap hw, cell_of_heap (cs := all') (el := el) (fr := fr) (by rw [heap_rewr hlt]; simp)]
      exact hfz o hin
    · simp only [World.cell?]
      rw [heap_rewr hlt, if_neg hbb]
  have hset : ∀ i e1, (H.set id e')[i]? = some e1 → ∃ e0, H[i]? = some e0 ∧ (i = id → e1 = e' ∧ e0 = e) ∧ (i ≠ id → e0 = e1) := by
    intro i e1 h
    rw [List.getElem?_set] at h
    by_cases hi : id = i
    · subst hi
      simp only [if_true] at h
      split at h
      · simp only [Option.some.injEq] at h
        exact ⟨e, hid, fun _ => ⟨h.symm, rfl⟩, fun hn => absurd rfl hn⟩
      · simp at h
    · rw [if_neg hi] at h
      exact ⟨e1, h, fun h' => absurd h'.symm hi, fun _ => rfl⟩
  refine ⟨fun _ _ h => h, by simp, fun _ _ h => h, fun _ _ _ h => .inl h, rfl, rfl, rfl, by simp [rewr], fun b' o _ hm => hcell b' o hm, ?_, ?_, ?_, ?_⟩
  · intro b' _ hm
    rw [heap_rewr hlt]
    split
    · rename_i hbb
      subst hbb
      have : all' = all := by
        apply List.ext_getElem?
        intro o
        exact hfz o (Classical.byContradiction fun hn => hm o ⟨id, e, hid, hl, hb, hn⟩)
      rw [this, hw]
    · rfl
  · intro b' _
    unfold bsz
    rw [heap_rewr hlt]
    by_cases hbb : b' = b
    · subst hbb; rw [if_pos rfl, hw]; simp [hlen]
    · rw [if_neg hbb]
  · intro b' o _ ⟨i, e1, h1, h2, h3, h4⟩
    obtain ⟨e0, k1, k2, k3⟩ := hset i e1 h1
    by_cases hi : i = id
    · obtain ⟨r1, r2⟩ := k2 hi
      subst r1 r2
      refine ⟨i, e0, k1, hl, h3, by rw [← he]; exact h4⟩
    · have := k3 hi
      subst this
      exact ⟨i, e0, k1, h2, h3, h4⟩
  · intro b' _ ⟨i, e1, h1, h2, h3⟩
    obtain ⟨e0, k1, k2, k3⟩ := hset i e1 h1
    by_cases hi : i = id
    · obtain ⟨r1, r2⟩ := k2 hi
      subst r1 r2
      exact ⟨i, e0, k1, hl, h3⟩
    · have := k3 hi
      subst this
      exact ⟨i, e0, k1, h2, h3⟩


theorem write_conc (c : Conc G ρ I H w) {id b : Nat} {el : TypeId} {fr : Nat × Nat} {all all' : List Value} {e e' : Ent} (hid : H[id]? = some e) (hl : e.live = true)
    (hb : ρ id = some (some b)) (hw : w.heap[b]? = some (.cells all.toArray el fr)) (hlen : all'.length = all.length) (hfz : ∀ o, inFrz e.frz o → all'[o]? = all[o]?)
    (he : e'.frz = e.frz) (hl' : e'.live = true) (hcl : clear fr all.length)
    (h1 : ∀ cs f, e' = .blk cs f → relL ρ I w cs all') (h2 : ∀ cs f, e' = .grow cs f → ∃ us rest, all' = us ++ rest ∧ relL ρ I w cs us) :
    Conc G ρ I (H.set id e') (rewr w b (.cells all'.toArray el fr)) := by
  have g := write_good (I := I) hid hl hb hw hlen hfz he
  have m := c.mono g
  have hlt : b < w.heap.size := (Array.getElem?_eq_some_iff.1 hw).1
  have hset : ∀ i e1, (H.set id e')[i]? = some e1 → (i = id ∧ e1 = e') ∨ (i ≠ id ∧ H[i]? = some e1) := by
    intro i e1 h
    rw [List.getElem?_set] at h
    by_cases hi : id = i
    · subst hi
      simp only [if_true] at h
      split at h
      · simp only [Option.some.injEq] at h
        exact .inl ⟨rfl, h.symm⟩
      · simp at h
    · rw [if_neg hi] at h
      exact .inr ⟨fun h' => hi h'.symm, h⟩
  refine ⟨fun i h => by simpa using c.dom i h, fun i h => by
    rcases hset i _ h with ⟨_, h⟩ | ⟨_, h⟩
    · rw [← h] at hl'; simp [Ent.live] at hl'
    · exact c.res i h, fun i x hx => by simpa [rewr] using c.blt i x hx, ?_, ?_, ?_, ?_, ?_⟩
  · intro i j x e1 e2 hi l1 hj l2 r1 r2
    have live : ∀ (k : Nat) (e3 : Ent), (H.set id e')[k]? = some e3 → e3.live = true → ∃ e4 : Ent, H[k]? = some e4 ∧ e4.live = true := by
      intro k e3 hk l3
      rcases hset k e3 hk with ⟨rfl, rfl⟩ | ⟨_, h⟩
      · exact ⟨e, hid, hl⟩
      · exact ⟨e3, h, l3⟩
    obtain ⟨e3, k1, k2⟩ := live i e1 hi l1
    obtain ⟨e4, k3, k4⟩ := live j e2 hj l2
    exact c.inj i j x e3 e4 k1 k2 k3 k4 r1 r2
  · intro i cs f h
    rcases hset i _ h with ⟨rfl, h'⟩ | ⟨hi, h⟩
    · exact ⟨b, el, fr, all', hb, by rw [heap_rewr hlt, if_pos rfl], relL_mono m _ _ (h1 cs f h'.symm), by rw [hlen]; exact hcl⟩
    · obtain ⟨b1, el1, fr1, us, k1, k2, k3, k4⟩ := c.blk i cs f h
      have hne : b1 ≠ b := fun hbb => hi (c.inj i id b _ e h rfl hid hl (hbb ▸ k1) hb)
      exact ⟨b1, el1, fr1, us, k1, by rw [heap_rewr hlt, if_neg hne]; exact k2, relL_mono m _ _ k3, k4⟩
  · intro i cs f h
    rcases hset i _ h with ⟨rfl, h'⟩ | ⟨hi, h⟩
    · obtain ⟨us, rest, rfl, hr⟩ := h2 cs f h'.symm
      exact .inr ⟨b, el, fr, us, rest, hb, by rw [heap_rewr hlt, if_pos rfl], relL_mono m _ _ hr, by rw [hlen]; exact hcl⟩
    · rcases c.grow i cs f h with ⟨k1, k2⟩ | ⟨b1, el1, fr1, us, rest, k1, k2, k3, k4⟩
      · exact .inl ⟨k1, k2⟩
      · have hne : b1 ≠ b := fun hbb => hi (c.inj i id b _ e h rfl hid hl (hbb ▸ k1) hb)
        exact .inr ⟨b1, el1, fr1, us, rest, k1, by rw [heap_rewr hlt, if_neg hne]; exact k2, relL_mono m _ _ k3, k4⟩
  · intro x o hx
    obtain ⟨k1, k2⟩ := c.imm x o hx
    exact ⟨by simpa [rewr] using k1, fun h => k2 (g.wrt x o k1 h)⟩
  · intro gl cs h
    obtain ⟨us, k1, k2⟩ := c.glob gl cs h
    exact ⟨us, relL_mono m.none _ _ k1, k2.mono m.imm⟩

def spliceV (c : List Value) (off : Nat) (l : List Value) : List Value := c.take off ++ l ++ c.drop (off + l.length)

theorem spliceV_nil (c : List Value) (off : Nat) : spliceV c off [] = c := by simp [spliceV]

theorem length_spliceV {c l : List Value} {off : Nat} (h : off + l.length ≤ c.length) : (spliceV c off l).length = c.length := by
  simp [spliceV]; omega

theorem spliceV_cons (c : List Value) (off : Nat) (v : Value) (l : List Value) (h : off + (l.length + 1) ≤ c.length) :
    spliceV (c.set off v) (off + 1) l = spliceV c off (v :: l) := by
  have hlt : off < c.length := by omega
  simp only [spliceV, List.length_cons]
  have h1 : (c.set off v).take (off + 1) = c.take off ++ [v] := by
    rw [List.take_succ_eq_append_getElem (by simpa using hlt), List.take_set_of_le (Nat.le_refl _)]
    simp
  have h2 : (c.set off v).drop (off + 1 + l.length) = c.drop (off + (l.length + 1)) := by
    rw [List.drop_set_of_lt (by omega)]
    congr 1; omega
  rw [h1, h2]
  simp

theorem spliceV_get_out {c l : List Value} {off o : Nat} (h : off + l.length ≤ c.length) (ho : o < off ∨ off + l.length ≤ o) : (spliceV c off l)[o]? = c[o]? := by
  simp only [spliceV]
  rcases ho with ho | ho
  · rw [List.append_assoc, List.getElem?_append_left (by simp; omega), List.getElem?_take, if_pos ho]
  · rw [List.getElem?_append_right (by simp; omega), List.getElem?_drop]
    congr 1
    simp
    omega

theorem relL_splice {l l' : List AV} {vs vs' : List Value} (h : relL ρ I w l vs) (h' : relL ρ I w l' vs') (off : Nat) : relL ρ I w (splice l off l') (spliceV vs off vs') := by
  unfold splice spliceV
  rw [relL_len h']
  exact relL_append (relL_append (relL_take h _) h') (relL_drop h _)

theorem setCell_rewr {b off : Nat} {el : TypeId} {fr : Nat × Nat} {all : List Value} (hw : w.heap[b]? = some (.cells all.toArray el fr)) (v : Value) :
    w.setCell ⟨b, off, none⟩ v = rewr w b (.cells (all.set off v).toArray el fr) := by
  have hlt : b < w.heap.size := (Array.getElem?_eq_some_iff.1 hw).1
  have hv : w.heap[b] = .cells all.toArray el fr := (Array.getElem?_eq_some_iff.1 hw).2
  simp only [World.setCell, rewr, World.mk.injEq, and_true]
  apply Array.ext_getElem?
  intro i
  rw [Array.getElem?_modify, Array.getElem?_setIfInBounds]
  by_cases e : b = i
  · subst e
    simp [hlt, hv]
  · simp [e]

theorem setCells_rewr {b : Nat} {el : TypeId} {fr : Nat × Nat} : ∀ (vs : List Value) (off : Nat) (all : List Value) (w : World), w.heap[b]? = some (.cells all.toArray el fr) → off + vs.length ≤ all.length →
    w.setCells b off vs = rewr w b (.cells (spliceV all off vs).toArray el fr)
  | [], off, all, w, hw, h => by
    simp only [World.setCells, spliceV_nil]
    have hlt : b < w.heap.size := (Array.getElem?_eq_some_iff.1 hw).1
    have hv : w.heap[b] = .cells all.toArray el fr := (Array.getElem?_eq_some_iff.1 hw).2
    cases w
    simp only [rewr, World.mk.injEq, and_true]
    apply Array.ext_getElem?
    intro i
    rw [Array.getElem?_setIfInBounds]
    by_cases e : b = i
    · subst e; simp_all
    · simp [e]
  | v :: vs, off, all, w, hw, h => by
    simp only [List.length_cons] at h
    have hlt : b < w.heap.size := (Array.getElem?_eq_some_iff.1 hw).1
    rw [World.setCells, setCell_rewr hw, setCells_rewr vs (off + 1) (all.set off v) _ (by rw [heap_rewr hlt, if_pos rfl]) (by simp; omega), spliceV_cons _ _ _ _ (by omega)]
    simp [rewr]

theorem run_storeVar {t : Nat} {ti : TI} (ht : tinfo P t = some ti) {b off : Nat} {v : Value} (hsz : v.cells.size = ti.size) (h1 : ∀ x ∈ v.cells.toList, x.oneCell' = true)
    {el : TypeId} {fr : Nat × Nat} {all : List Value} (hw : w.heap[b]? = some (.cells all.toArray el fr)) (hle : off + ti.size ≤ all.length) (hcl : clear fr all.length) :
    (storeVar t ⟨b, off, none⟩ v).run P w = .ok () (rewr w b (.cells (spliceV all off v.cells.toList).toArray el fr)) := by
  obtain ⟨j, d, g1, g2, g3, _, _⟩ := tinfo_some ht
  have hlen : v.cells.toList.length = ti.size := by simpa using hsz
  have := run_storeCells_cells (P := P) b off v.cells.toList 0 w
    (fun i hi => by rw [cell_of_heap hw, List.getElem?_eq_getElem (by omega)]; rfl)
    (fun i hi => by
      simp only [World.frozen?, hw, Nat.add_zero]
      have := hcl (off + i) (by omega)
      simp only [Bool.and_eq_false_iff, decide_eq_false_iff_not]
      omega)
    h1
  simp only [Nat.add_zero] at this
  rw [setCells_rewr _ _ _ _ hw (by omega)] at this
  simp [storeVar, run_sizeOf g1, hsz, g3, this]

end
end Go.Ab
