/- The abstract layer (second state), part G: memory that is made and written. -/
import Derived.Test.YtfjmpdoidkblcaaDoorVF
set_option linter.unusedSimpArgs false
set_option linter.unusedVariables false
namespace Go.V
open Go

section
variable {P : Program} {G : Env P} {g : Nat → Option (List AV)} {ρ : Rho} {I : Imm} {H : Heap} {w : World}

/-- The abstract memory's numbers, one more. -/
def bindR (ρ : Rho) (n : Nat) (x : Option Nat) : Rho := fun id => if id = n then some x else ρ id

theorem getElem?_snoc {α : Type} {l : List α} {e x : α} {i : Nat} (h : (l ++ [e])[i]? = some x) : (i < l.length ∧ l[i]? = some x) ∨ (i = l.length ∧ x = e) := by
  rcases Nat.lt_or_ge i l.length with hi | hi
  · left; rw [List.getElem?_append_left hi] at h; exact ⟨hi, h⟩
  · right
    rw [List.getElem?_append_right hi] at h
    have : i - l.length = 0 := by
      have := (List.getElem?_eq_some_iff.1 h).1
      simpa using this
    rw [this] at h
    simp at h
    exact ⟨by omega, h.symm⟩

theorem alloc_old (w : World) (o : Obj) {i : Nat} (h : i < w.heap.size) : (w.alloc o).heap[i]? = w.heap[i]? := by
  show (w.heap.push o)[i]? = _
  rw [Array.getElem?_push, if_neg (by omega)]
theorem alloc_new (w : World) (o : Obj) : (w.alloc o).heap[w.heap.size]? = some o := by
  show (w.heap.push o)[w.heap.size]? = _
  simp
theorem bsz_alloc (w : World) (o : Obj) {b : Nat} (h : b < w.heap.size) : bsz (w.alloc o) b = bsz w b := by
  unfold bsz; rw [alloc_old w o h]
theorem cell_alloc (w : World) (o : Obj) {b : Nat} (h : b < w.heap.size) (off : Nat) : (w.alloc o).cell? ⟨b, off, none⟩ = w.cell? ⟨b, off, none⟩ :=
  World.cell?_alloc_lt _ _ _ h

theorem bindR_old {ρ : Rho} {n id : Nat} {x : Option Nat} {y : Option Nat} (hn : ρ n = none) (h : ρ id = some y) : bindR ρ n x id = some y := by
  simp only [bindR]
  split
  · rename_i e; subst e; rw [hn] at h; simp at h
  · exact h

theorem fresh_none (c : Conc g ρ I H w) : ρ H.length = none := Classical.byContradiction fun h => Nat.lt_irrefl _ (c.dom _ h)

/-- A new entry: its number's block is new, or none. -/
theorem push_good (c : Conc g ρ I H w) (e : Ent) (x : Option Nat) {w' : World} (hx : ∀ b, x = some b → w.heap.size ≤ b) (hsz : w.heap.size ≤ w'.heap.size) (hold : ∀ b, b < w.heap.size → w'.heap[b]? = w.heap[b]?)
    (hos : w'.os = w.os) (htape : w'.tape = w.tape) (hout : w'.output = w.output) :
    Good ρ I H w (bindR ρ H.length x) I (H ++ [e]) w' where
  ext := fun id y h => .inl (bindR_old (fresh_none c) h)
  kp := fun id y h ⟨e', h1, h2⟩ => by
    rcases getElem?_snoc h1 with ⟨_, g2⟩ | ⟨g1, _⟩
    · exact ⟨e', g2, h2⟩
    · have := c.dom id (by rw [h]; simp); omega
  len := by simp
  imm := fun _ _ h => h
  imm' := fun _ _ _ h => .inl h
  os := hos
  tape := htape
  out := hout
  size := hsz
  cell := fun b off h _ => by simp only [World.cell?, hold b h]
  block := fun b h _ => hold b h
  bs := fun b h => by unfold bsz; rw [hold b h]
  wrt := fun b off h ⟨id, e', h1, h2, h3, h4⟩ => by
    rcases getElem?_snoc h1 with ⟨g1, g2⟩ | ⟨g1, g2⟩
    · simp only [bindR, Nat.ne_of_lt g1, if_false] at h3
      exact ⟨id, e', g2, h2, h3, h4⟩
    · subst g1
      simp only [bindR, if_true, Option.some.injEq] at h3
      have := hx b h3
      omega
  own := fun b h ⟨id, e', h1, h2, h3⟩ => by
    rcases getElem?_snoc h1 with ⟨g1, g2⟩ | ⟨g1, g2⟩
    · simp only [bindR, Nat.ne_of_lt g1, if_false] at h3
      exact ⟨id, e', g2, h2, h3⟩
    · subst g1
      simp only [bindR, if_true, Option.some.injEq] at h3
      have := hx b h3
      omega

theorem push_conc (c : Conc g ρ I H w) (e : Ent) (x : Option Nat) {w' : World} (hx : ∀ b, x = some b → w.heap.size ≤ b ∧ b < w'.heap.size) (hsz : w.heap.size ≤ w'.heap.size) (hold : ∀ b, b < w.heap.size → w'.heap[b]? = w.heap[b]?)
    (hl : e.live = true)
    (h1 : ∀ cs f, e = .blk cs f → ∃ b el fr us, x = some b ∧ w'.heap[b]? = some (.cells (List.toArray us) el fr) ∧ RL ρ I w cs us ∧ clear fr us.length)
    (h2 : e.grows = true → e.even ∧ ((x = none ∧ szL e.cells = 0) ∨ ∃ b el fr cs rest, x = some b ∧ w'.heap[b]? = some (.cells (List.toArray (cs ++ rest)) el fr) ∧ RL ρ I w e.cells cs ∧ clear fr (cs ++ rest).length))
    (hos : w'.os = w.os) (htape : w'.tape = w.tape) (hout : w'.output = w.output) :
    Conc g (bindR ρ H.length x) I (H ++ [e]) w' ∧ Mono ρ I w (bindR ρ H.length x) I w' := by
  have hn := fresh_none c
  have gd := push_good c e x (fun b h => (hx b h).1) hsz hold hos htape hout
  have m := c.mono gd (fun id y h => bindR_old hn h)
  refine ⟨⟨?_, ?_, ?_, ?_, ?_, ?_, ?_, ?_⟩, m⟩
  · intro id h
    simp only [bindR] at h
    split at h
    · rename_i h'; subst h'; simp
    · have := c.dom id h; simp; omega
  · intro id h
    rcases getElem?_snoc h with ⟨g1, g2⟩ | ⟨g1, g2⟩
    · simp only [bindR, Nat.ne_of_lt g1, if_false]; exact c.res id g2
    · rw [← g2] at hl; simp [Ent.live] at hl
  · intro id b hb
    simp only [bindR] at hb
    split at hb
    · simp at hb; exact (hx b hb).2
    · have := c.blt id b hb; omega
  · intro i j b e1 e2 hi h1 hj h2 hbi hbj
    rcases getElem?_snoc hi with ⟨g1, g2⟩ | ⟨g1, g2⟩ <;> rcases getElem?_snoc hj with ⟨k1, k2⟩ | ⟨k1, k2⟩
    · simp only [bindR, Nat.ne_of_lt g1, Nat.ne_of_lt k1, if_false] at hbi hbj
      exact c.inj i j b e1 e2 g2 h1 k2 h2 hbi hbj
    · subst k1
      simp only [bindR, Nat.ne_of_lt g1, if_false] at hbi
      simp only [bindR, if_true, Option.some.injEq] at hbj
      have := c.blt i b hbi; have := hx b hbj; omega
    · subst g1
      simp only [bindR, Nat.ne_of_lt k1, if_false] at hbj
      simp only [bindR, if_true, Option.some.injEq] at hbi
      have := c.blt j b hbj; have := hx b hbi; omega
    · omega
  · intro id cs f h
    rcases getElem?_snoc h with ⟨g1, g2⟩ | ⟨g1, g2⟩
    · obtain ⟨b, el', fr, us, k1, k2, k3, k4⟩ := c.blk id cs f g2
      have hlt := c.blt id b k1
      exact ⟨b, el', fr, us, by simpa [bindR, Nat.ne_of_lt g1] using k1, by rw [hold b hlt]; exact k2, RL_mono m _ _ k3, k4⟩
    · subst g1
      obtain ⟨b, el, fr, us, k1, k2, k3, k4⟩ := h1 cs f g2.symm
      exact ⟨b, el, fr, us, by simp [bindR, k1], k2, RL_mono m _ _ k3, k4⟩
  · intro id e' h hg
    rcases getElem?_snoc h with ⟨g1, g2⟩ | ⟨g1, g2⟩
    · obtain ⟨k0, ⟨k1, k2⟩ | ⟨b, el', fr, us, rest, k1, k2, k3, k4⟩⟩ := c.grow id e' g2 hg
      · exact ⟨k0, .inl ⟨by simpa [bindR, Nat.ne_of_lt g1] using k1, k2⟩⟩
      · have hlt := c.blt id b k1
        exact ⟨k0, .inr ⟨b, el', fr, us, rest, by simpa [bindR, Nat.ne_of_lt g1] using k1, by rw [hold b hlt]; exact k2, RL_mono m _ _ k3, k4⟩⟩
    · subst g1 g2
      obtain ⟨k0, ⟨k1, k2⟩ | ⟨b, el', fr, us, rest, k1, k2, k3, k4⟩⟩ := h2 hg
      · exact ⟨k0, .inl ⟨by simp [bindR, k1], k2⟩⟩
      · exact ⟨k0, .inr ⟨b, el', fr, us, rest, by simp [bindR, k1], k2, RL_mono m _ _ k3, k4⟩⟩
  · intro b o hb
    obtain ⟨h1, h2⟩ := c.imm b o hb
    exact ⟨by omega, fun h => h2 (gd.wrt b o h1 h)⟩
  · intro gl cs h
    obtain ⟨us, h1, h2⟩ := c.glob gl cs h
    exact ⟨us, RL_mono m.none _ _ h1, h2.mono m.imm⟩

/-- The world with a block's cells written anew. -/
def rewr (w : World) (b : Nat) (o : Obj) : World := { w with heap := w.heap.setIfInBounds b o }

theorem heap_rewr {b : Nat} {o : Obj} (h : b < w.heap.size) (i : Nat) : (rewr w b o).heap[i]? = if i = b then some o else w.heap[i]? := by
  simp only [rewr, Array.getElem?_setIfInBounds]
  by_cases e : b = i
  · subst e; simp [h]
  · rw [if_neg e, if_neg (Ne.symm e)]

theorem set_cases {id : Nat} {e' : Ent} {i : Nat} {e1 : Ent} (h : (H.set id e')[i]? = some e1) : (i = id ∧ e1 = e') ∨ (i ≠ id ∧ H[i]? = some e1) := by
  rw [List.getElem?_set] at h
  by_cases hi : id = i
  · subst hi
    simp only [if_true] at h
    split at h
    · simp only [Option.some.injEq] at h
      exact .inl ⟨rfl, h.symm⟩
    · simp at h
  · rw [if_neg hi] at h
    exact .inr ⟨fun h' => hi h'.symm, h⟩

theorem write_good {id b : Nat} {el : TypeId} {fr : Nat × Nat} {all all' : List Value} {e e' : Ent} (hid : H[id]? = some e) (hl : e.live = true)
    (hb : ρ id = some (some b)) (hw : w.heap[b]? = some (.cells all.toArray el fr)) (hlen : all'.length = all.length) (hfz : ∀ o, inFrz e.frz o → all'[o]? = all[o]?)
    (he : e'.frz = e.frz) (hg : e'.grows = true → e.grows = true) : Good ρ I H w ρ I (H.set id e') (rewr w b (.cells all'.toArray el fr)) := by
  have hlt : b < w.heap.size := (Array.getElem?_eq_some_iff.1 hw).1
  have hcell : ∀ b' o, ¬ Mut ρ H b' o → (rewr w b (.cells all'.toArray el fr)).cell? ⟨b', o, none⟩ = w.cell? ⟨b', o, none⟩ := by
    intro b' o hm
    by_cases hbb : b' = b
    · subst hbb
      have hin : inFrz e.frz o := by
        refine Classical.byContradiction fun hn => hm ⟨id, e, hid, hl, hb, hn⟩
      rw [cell_of_heap hw, cell_of_heap (cs := all') (el := el) (fr := fr) (by rw [heap_rewr hlt]; simp)]
      exact hfz o hin
    · simp only [World.cell?]
      rw [heap_rewr hlt, if_neg hbb]
  refine ⟨fun _ _ h => .inl h, ?_, by simp, fun _ _ h => h, fun _ _ _ h => .inl h, rfl, rfl, rfl, by simp [rewr], fun b' o _ hm => hcell b' o hm, ?_, ?_, ?_, ?_⟩
  · intro i x _ ⟨e1, h1, h2⟩
    rcases set_cases h1 with ⟨rfl, rfl⟩ | ⟨_, h⟩
    · exact ⟨e, hid, hg h2⟩
    · exact ⟨e1, h, h2⟩
  · intro b' _ hm
    rw [heap_rewr hlt]
    split
    · rename_i hbb
      subst hbb
      have : all' = all := by
        apply List.ext_getElem?
        intro o
        exact hfz o (Classical.byContradiction fun hn => hm o ⟨id, e, hid, hl, hb, hn⟩)
      rw [this, hw]
    · rfl
  · intro b' _
    unfold bsz
    rw [heap_rewr hlt]
    by_cases hbb : b' = b
    · subst hbb; rw [if_pos rfl, hw]; simp [hlen]
    · rw [if_neg hbb]
  · intro b' o _ ⟨i, e1, h1, h2, h3, h4⟩
    rcases set_cases h1 with ⟨rfl, rfl⟩ | ⟨_, h⟩
    · exact ⟨i, e, hid, hl, h3, by rw [← he]; exact h4⟩
    · exact ⟨i, e1, h, h2, h3, h4⟩
  · intro b' _ ⟨i, e1, h1, h2, h3⟩
    rcases set_cases h1 with ⟨rfl, rfl⟩ | ⟨_, h⟩
    · exact ⟨i, e, hid, hl, h3⟩
    · exact ⟨i, e1, h, h2, h3⟩

theorem write_conc (c : Conc g ρ I H w) {id b : Nat} {el : TypeId} {fr : Nat × Nat} {all all' : List Value} {e e' : Ent} (hid : H[id]? = some e) (hl : e.live = true)
    (hb : ρ id = some (some b)) (hw : w.heap[b]? = some (.cells all.toArray el fr)) (hlen : all'.length = all.length) (hfz : ∀ o, inFrz e.frz o → all'[o]? = all[o]?)
    (he : e'.frz = e.frz) (hg : e'.grows = true → e.grows = true) (hl' : e'.live = true) (hcl : clear fr all.length)
    (h1 : ∀ cs f, e' = .blk cs f → RL ρ I w cs all') (h2 : e'.grows = true → e'.even ∧ ∃ us rest, all' = us ++ rest ∧ RL ρ I w e'.cells us) :
    Conc g ρ I (H.set id e') (rewr w b (.cells all'.toArray el fr)) ∧ Mono ρ I w ρ I (rewr w b (.cells all'.toArray el fr)) := by
  have gd := write_good (I := I) hid hl hb hw hlen hfz he hg
  have m := c.mono gd (fun _ _ h => h)
  have hlt : b < w.heap.size := (Array.getElem?_eq_some_iff.1 hw).1
  have live : ∀ (k : Nat) (e3 : Ent), (H.set id e')[k]? = some e3 → e3.live = true → ∃ e4 : Ent, H[k]? = some e4 ∧ e4.live = true := by
    intro k e3 hk l3
    rcases set_cases hk with ⟨rfl, rfl⟩ | ⟨_, h⟩
    · exact ⟨e, hid, hl⟩
    · exact ⟨e3, h, l3⟩
  refine ⟨⟨fun i h => by simpa using c.dom i h, fun i h => by
    rcases set_cases h with ⟨_, h⟩ | ⟨_, h⟩
    · rw [← h] at hl'; simp [Ent.live] at hl'
    · exact c.res i h, fun i x hx => by simpa [rewr] using c.blt i x hx, ?_, ?_, ?_, ?_, ?_⟩, m⟩
  · intro i j x e1 e2 hi l1 hj l2 r1 r2
    obtain ⟨e3, k1, k2⟩ := live i e1 hi l1
    obtain ⟨e4, k3, k4⟩ := live j e2 hj l2
    exact c.inj i j x e3 e4 k1 k2 k3 k4 r1 r2
  · intro i cs f h
    rcases set_cases h with ⟨rfl, h'⟩ | ⟨hi, h⟩
    · exact ⟨b, el, fr, all', hb, by rw [heap_rewr hlt, if_pos rfl], RL_mono m _ _ (h1 cs f h'.symm), by rw [hlen]; exact hcl⟩
    · obtain ⟨b1, el1, fr1, us, k1, k2, k3, k4⟩ := c.blk i cs f h
      have hne : b1 ≠ b := fun hbb => hi (c.inj i id b _ e h rfl hid hl (hbb ▸ k1) hb)
      exact ⟨b1, el1, fr1, us, k1, by rw [heap_rewr hlt, if_neg hne]; exact k2, RL_mono m _ _ k3, k4⟩
  · intro i e1 h hg1
    rcases set_cases h with ⟨rfl, rfl⟩ | ⟨hi, h⟩
    · obtain ⟨k0, us, rest, rfl, hr⟩ := h2 hg1
      exact ⟨k0, .inr ⟨b, el, fr, us, rest, hb, by rw [heap_rewr hlt, if_pos rfl], RL_mono m _ _ hr, by rw [hlen]; exact hcl⟩⟩
    · obtain ⟨k0, ⟨k1, k2⟩ | ⟨b1, el1, fr1, us, rest, k1, k2, k3, k4⟩⟩ := c.grow i e1 h hg1
      · exact ⟨k0, .inl ⟨k1, k2⟩⟩
      · have hlv : e1.live = true := by cases e1 <;> simp [Ent.grows] at hg1 <;> rfl
        have hne : b1 ≠ b := fun hbb => hi (c.inj i id b _ e h hlv hid hl (hbb ▸ k1) hb)
        exact ⟨k0, .inr ⟨b1, el1, fr1, us, rest, k1, by rw [heap_rewr hlt, if_neg hne]; exact k2, RL_mono m _ _ k3, k4⟩⟩
  · intro x o hx
    obtain ⟨k1, k2⟩ := c.imm x o hx
    exact ⟨by simpa [rewr] using k1, fun h => k2 (gd.wrt x o k1 h)⟩
  · intro gl cs h
    obtain ⟨us, k1, k2⟩ := c.glob gl cs h
    exact ⟨us, RL_mono m.none _ _ k1, k2.mono m.imm⟩

theorem spliceV_nil' (c : List Value) (off : Nat) : spliceV c off [] = c := by simp [spliceV]
theorem spliceV_cons' (c : List Value) (off : Nat) (v : Value) (l : List Value) (h : off + (l.length + 1) ≤ c.length) : spliceV c off (v :: l) = spliceV (c.set off v) (off + 1) l := by
  simp only [spliceV, List.length_cons]
  rw [List.take_set, List.drop_set, if_pos (by omega)]
  have h1 : off < c.length := by omega
  rw [List.take_succ_eq_append_getElem h1, List.set_append_right _ _ (by simp; omega)]
  simp [List.length_take, Nat.min_eq_left (Nat.le_of_lt h1)]
  rw [show off + 1 + l.length = off + (l.length + 1) by omega]

theorem setCell_rewr {b off : Nat} {el : TypeId} {fr : Nat × Nat} {all : List Value} (hw : w.heap[b]? = some (.cells all.toArray el fr)) (v : Value) :
    w.setCell ⟨b, off, none⟩ v = rewr w b (.cells (all.set off v).toArray el fr) := by
  have hlt : b < w.heap.size := (Array.getElem?_eq_some_iff.1 hw).1
  have hv : w.heap[b] = .cells all.toArray el fr := (Array.getElem?_eq_some_iff.1 hw).2
  simp only [World.setCell, rewr, World.mk.injEq, and_true]
  apply Array.ext_getElem?
  intro i
  rw [Array.getElem?_modify, Array.getElem?_setIfInBounds]
  by_cases e : b = i
  · subst e
    simp [hlt, hv]
  · simp [e]

theorem setCells_rewr {b : Nat} {el : TypeId} {fr : Nat × Nat} : ∀ (vs : List Value) (off : Nat) (all : List Value) (w : World), w.heap[b]? = some (.cells all.toArray el fr) → off + vs.length ≤ all.length →
    w.setCells b off vs = rewr w b (.cells (spliceV all off vs).toArray el fr)
  | [], off, all, w, hw, h => by
    simp only [World.setCells, spliceV_nil']
    have hlt : b < w.heap.size := (Array.getElem?_eq_some_iff.1 hw).1
    have hv : w.heap[b] = .cells all.toArray el fr := (Array.getElem?_eq_some_iff.1 hw).2
    cases w
    simp only [rewr, World.mk.injEq, and_true]
    apply Array.ext_getElem?
    intro i
    rw [Array.getElem?_setIfInBounds]
    by_cases e : b = i
    · subst e; simp_all
    · simp [e]
  | v :: vs, off, all, w, hw, h => by
    simp only [List.length_cons] at h
    have hlt : b < w.heap.size := (Array.getElem?_eq_some_iff.1 hw).1
    rw [World.setCells, setCell_rewr hw, setCells_rewr vs (off + 1) (all.set off v) _ (by rw [heap_rewr hlt, if_pos rfl]) (by simp; omega), spliceV_cons' _ _ _ _ (by omega)]
    simp [rewr]


theorem spliceV_get_out {c l : List Value} {off o : Nat} (h : off + l.length ≤ c.length) (ho : o < off ∨ off + l.length ≤ o) : (spliceV c off l)[o]? = c[o]? := by
  simp only [spliceV]
  rcases ho with ho | ho
  · rw [List.getElem?_append_left (by simp; omega), List.getElem?_take, if_pos ho]
  · rw [List.getElem?_append_right (by simp; omega), List.getElem?_append_right (by simp; omega), List.getElem?_drop]
    congr 1
    simp
    omega

theorem run_storeVar {t : Nat} {ti : TI} (ht : G.ty t = some ti) {b off : Nat} {v : Value} (hsz : v.cells.size = ti.size) (h1 : ∀ x ∈ v.cells.toList, x.oneCell' = true)
    {el : TypeId} {fr : Nat × Nat} {all : List Value} (hw : w.heap[b]? = some (.cells all.toArray el fr)) (hle : off + ti.size ≤ all.length) (hcl : clear fr all.length) :
    (storeVar t ⟨b, off, none⟩ v).run P w = .ok () (rewr w b (.cells (spliceV all off v.cells.toList).toArray el fr)) := by
  obtain ⟨j, d, g1, g2, g3, _, _⟩ := ty_ok ht
  have hlen : v.cells.toList.length = ti.size := by simpa using hsz
  have := run_storeCells_cells (P := P) b off v.cells.toList 0 w
    (fun i hi => by rw [cell_of_heap hw, List.getElem?_eq_getElem (by omega)]; rfl)
    (fun i hi => by
      simp only [World.frozen?, hw, Nat.add_zero]
      have := hcl (off + i) (by omega)
      simp only [Bool.and_eq_false_iff, decide_eq_false_iff_not]
      omega)
    h1
  simp only [Nat.add_zero] at this
  rw [setCells_rewr _ _ _ _ hw (by omega)] at this
  simp [storeVar, run_sizeOf g1, hsz, g3, this]

/-- May some cells be written? -/
def frzFree (f : List (Nat × Nat)) (off n : Nat) : Bool := f.all fun r => leB (off + n) r.1 || leB r.2 off
theorem frzFree_iff {f : List (Nat × Nat)} {off n : Nat} (h : frzFree f off n = true) : ∀ r ∈ f, off + n ≤ r.1 ∨ r.2 ≤ off := by
  intro r hr
  have := List.all_eq_true.1 h r hr
  simpa [leB_iff] using this

theorem setX_sound : ∀ {c : List AV} {vs : List Value} {off n : Nat} {i : Int} {v : AV} {x : Value} {c' : List AV}, RL ρ I w c vs → (0 ≤ i ∧ i < n) → off + n ≤ szL c → szA v = 1 → isAg v = false → rel ρ I w v x → setX c off n i v = some c' →
    RL ρ I w c' (vs.set (off + i.toNat) x) ∧ szL c' = szL c
  | [], vs, off, n, i, v, x, c', h, hi, hle, hs, ha, hx, hc => by simp [szL] at hle; omega
  | a :: as, vs, off, n, i, v, x, c', ⟨ys, zs, h0, h1, h2⟩, hi, hle, hs, ha, hx, hc => by
    subst h0
    have hl := R_len a ys h1
    have hl2 := RL_len as zs h2
    simp only [szL] at hle
    unfold setX at hc
    cases hq : leB (szA a) off with
    | true =>
      have hq' := leB_iff.1 hq
      rw [hq] at hc
      simp only [cond_true] at hc
      split at hc
      · rename_i l hl'
        simp only [Option.some.injEq] at hc
        subst hc
        obtain ⟨k1, k2⟩ := setX_sound h2 hi (by omega) hs ha hx hl'
        refine ⟨?_, by simp only [szL, k2]⟩
        rw [List.set_append_right _ _ (by omega), show off + i.toNat - ys.length = off - szA a + i.toNat by omega]
        exact RL_cons.2 ⟨ys, _, rfl, h1, k1⟩
      · simp at hc
    | false =>
      rw [hq] at hc
      simp only [cond_false] at hc
      cases ho : off == 0 <;> rw [ho] at hc <;> simp only [cond_true, cond_false, reduceCtorEq] at hc
      obtain rfl : off = 0 := by simpa using ho
      split at hc
      · cases hn : leB n _ <;> rw [hn] at hc <;> simp only [cond_true, cond_false, reduceCtorEq, Option.some.injEq] at hc
        subst hc
        have hn' := leB_iff.1 hn
        obtain ⟨rfl, h3⟩ := h1
        rw [rel_u8] at hx
        subst hx
        refine ⟨?_, rfl⟩
        rw [List.set_append_left _ _ (by rw [length_v8]; omega), Nat.zero_add, v8_set]
        exact RL_cons.2 ⟨_, zs, rfl, ⟨rfl, by simpa using h3⟩, h2⟩
      · cases hn : leB n _ <;> rw [hn] at hc <;> simp only [cond_true, cond_false, reduceCtorEq, Option.some.injEq] at hc
        subst hc
        have hn' := leB_iff.1 hn
        obtain ⟨rfl, h3⟩ := h1
        rw [rel_u32] at hx
        subst hx
        refine ⟨?_, rfl⟩
        rw [List.set_append_left _ _ (by rw [length_v32]; omega), Nat.zero_add, v32_set]
        exact RL_cons.2 ⟨_, zs, rfl, ⟨rfl, by simpa using h3⟩, h2⟩
      · cases hn : leB n _ <;> rw [hn] at hc <;> simp only [cond_true, cond_false, reduceCtorEq, Option.some.injEq] at hc
        subst hc
        have hn' := leB_iff.1 hn
        obtain ⟨rfl, h3⟩ := h1
        rw [rel_u64] at hx
        subst hx
        refine ⟨?_, rfl⟩
        rw [List.set_append_left _ _ (by rw [length_v64]; omega), Nat.zero_add, v64_set]
        exact RL_cons.2 ⟨_, zs, rfl, ⟨rfl, by simpa using h3⟩, h2⟩
      · simp only [Option.some.injEq] at hc
        subst hc
        have hR := rel_one ha hx
        have hcells : RL ρ I w (a :: as) (ys ++ zs) := RL_cons.2 ⟨ys, zs, rfl, h1, h2⟩
        have := RL_set (a :: as) (ys ++ zs) i.toNat v [x] hcells hR (by simp only [szL]; omega) (by omega)
        rw [spliceV_one _ (by simp; omega)] at this
        rw [Nat.zero_add]
        refine ⟨this, ?_⟩
        have e1 := RL_len _ _ this
        have e2 := RL_len _ _ hcells
        simp only [List.length_set] at e1
        omega
theorem setX1_sound {c : List AV} {vs : List Value} {off n : Nat} {i : Int} {v : AV} {x : Value} {c' : List AV} (h : RL ρ I w c vs) (hi : 0 ≤ i ∧ i < n) (hle : off + n ≤ szL c) (hs : szA v = 1) (ha : isAg v = false) (hx : rel ρ I w v x) (hc : setX1 c off n i v = some c') :
    RL ρ I w c' (vs.set (off + i.toNat) x) ∧ szL c' = szL c := by
  unfold setX1 at hc
  split at hc
  · simp only [Option.some.injEq] at hc
    subst hc
    obtain ⟨ys, zs, rfl, ⟨rfl, h1⟩, h2⟩ := RL_cons.1 h
    cases h2
    rw [rel_u8] at hx
    subst hx
    rw [List.append_nil, ofs_eq, v8_set]
    exact ⟨RL_cons.2 ⟨_, [], by simp, ⟨rfl, by simpa using h1⟩, rfl⟩, rfl⟩
  · simp only [Option.some.injEq] at hc
    subst hc
    obtain ⟨ys, zs, rfl, ⟨rfl, h1⟩, h2⟩ := RL_cons.1 h
    cases h2
    rw [rel_u32] at hx
    subst hx
    rw [List.append_nil, ofs_eq, v32_set]
    exact ⟨RL_cons.2 ⟨_, [], by simp, ⟨rfl, by simpa using h1⟩, rfl⟩, rfl⟩
  · simp only [Option.some.injEq] at hc
    subst hc
    obtain ⟨ys, zs, rfl, ⟨rfl, h1⟩, h2⟩ := RL_cons.1 h
    cases h2
    rw [rel_u64] at hx
    subst hx
    rw [List.append_nil, ofs_eq, v64_set]
    exact ⟨RL_cons.2 ⟨_, [], by simp, ⟨rfl, by simpa using h1⟩, rfl⟩, rfl⟩
  · exact setX_sound h hi hle hs ha hx hc
end
end Go.V
