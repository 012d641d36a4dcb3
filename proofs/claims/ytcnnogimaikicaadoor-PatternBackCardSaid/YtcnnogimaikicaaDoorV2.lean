/- The abstract layer (second state), part G: memory that is made and written. -/
import Derived.Test.YtcnnogimaikicaaDoorV1

set_option linter.unusedSimpArgs false
set_option linter.unusedVariables false
namespace Go.V
open Go

section
variable {P : Program} {G : Env P} {g : Nat → Option (List AV)} {ρ : Rho} {I : Imm} {H : Heap} {w : World}

/-- The abstract memory's numbers, one more. -/
def bindR (ρ : Rho) (n : Nat) (x : Option Nat) : Rho := fun id => if id = n then some x else ρ id

theorem getElem?_snoc {α : Type} {l : List α} {e x : α} {i : Nat} (h : (l ++ [e])[i]? = some x) : (i < l.length ∧ l[i]? = some x) ∨ (i = l.length ∧ x = e) := by
  rcases Nat.lt_or_ge i l.length with hi | hi
  · left; rw [List.getElem?_append_left hi] at h; exact ⟨hi, h⟩
  · right
    rw [List.getElem?_append_right hi] at h
    have : i - l.length = 0 := by
      have := (List.getElem?_eq_some_iff.1 h).1
      simpa using this
    rw [this] at h
    simp at h
    exact ⟨by omega, h.symm⟩

theorem alloc_old (w : World) (o : Obj) {i : Nat} (h : i < w.heap.size) : (w.alloc o).heap[i]? = w.heap[i]? := by
  show (w.heap.push o)[i]? = _
  rw [Array.getElem?_push, if_neg (by omega)]
theorem alloc_new (w : World) (o : Obj) : (w.alloc o).heap[w.heap.size]? = some o := by
  show (w.heap.push o)[w.heap.size]? = _
  simp
theorem bsz_alloc (w : World) (o : Obj) {b : Nat} (h : b < w.heap.size) : bsz (w.alloc o) b = bsz w b := by
  unfold bsz; rw [alloc_old w o h]
theorem cell_alloc (w : World) (o : Obj) {b : Nat} (h : b < w.heap.size) (off : Nat) : (w.alloc o).cell? ⟨b, off, none⟩ = w.cell? ⟨b, off, none⟩ :=
  World.cell?_alloc_lt _ _ _ h

theorem bindR_old {ρ : Rho} {n id : Nat} {x : Option Nat} {y : Option Nat} (hn : ρ n = none) (h : ρ id = some y) : bindR ρ n x id = some y := by
  simp only [bindR]
  split
  · rename_i e; subst e; rw [hn] at h; simp at h
  · exact h

theorem fresh_none (c : Conc g ρ I H w) : ρ H.length = none := Classical.byContradiction fun h => Nat.lt_irrefl _ (c.dom _ h)

/-- A new entry: its number's block is new, or none. -/
theorem push_good (c : Conc g ρ I H w) (e : Ent) (x : Option Nat) {w' : World} (hx : ∀ b, x = some b → w.heap.size ≤ b) (hsz : w.heap.size ≤ w'.heap.size) (hold : ∀ b, b < w.heap.size → w'.heap[b]? = w.heap[b]?)
    (hos : w'.os = w.os) (htape : w'.tape = w.tape) (hout : w'.output = w.output) :
    Good ρ I H w (bindR ρ H.length x) I (H ++ [e]) w' where
  ext := fun id y h => bindR_old (fresh_none c) h
  kp := fun id y h ⟨e', h1, h2⟩ => by
    rcases getElem?_snoc h1 with ⟨_, g2⟩ | ⟨g1, _⟩
    · exact ⟨e', g2, h2⟩
    · have := c.dom id (by rw [h]; simp); omega
  len := by simp
  imm := fun _ _ h => h
  imm' := fun _ _ _ h => .inl h
  os := hos
  tape := htape
  out := hout
  size := hsz
  cell := fun b off h _ => by simp only [World.cell?, hold b h]
  block := fun b h _ => hold b h
  bs := fun b h => by unfold bsz; rw [hold b h]
  wrt := fun b off h ⟨id, e', h1, h2, h3, h4⟩ => by
    rcases getElem?_snoc h1 with ⟨g1, g2⟩ | ⟨g1, g2⟩
    · simp only [bindR, Nat.ne_of_lt g1, if_false] at h3
      exact ⟨id, e', g2, h2, h3, h4⟩
    · subst g1
      simp only [bindR, if_true, Option.some.injEq] at h3
      have := hx b h3
      omega
  own := fun b h ⟨id, e', h1, h2, h3⟩ => by
    rcases getElem?_snoc h1 with ⟨g1, g2⟩ | ⟨g1, g2⟩
    · simp only [bindR, Nat.ne_of_lt g1, if_false] at h3
      exact ⟨id, e', g2, h2, h3⟩
    · subst g1
      simp only [bindR, if_true, Option.some.injEq] at h3
      have := hx b h3
      omega

theorem push_conc (c : Conc g ρ I H w) (e : Ent) (x : Option Nat) {w' : World} (hx : ∀ b, x = some b → w.heap.size ≤ b ∧ b < w'.heap.size) (hsz : w.heap.size ≤ w'.heap.size) (hold : ∀ b, b < w.heap.size → w'.heap[b]? = w.heap[b]?)
    (hl : e.live = true)
    (h1 : ∀ cs f, e = .blk cs f → ∃ b el fr us, x = some b ∧ w'.heap[b]? = some (.cells (List.toArray us) el fr) ∧ RL ρ I w cs us ∧ clear fr us.length)
    (h2 : e.grows = true → e.even ∧ ((x = none ∧ szL e.cells = 0) ∨ ∃ b el fr cs rest, x = some b ∧ w'.heap[b]? = some (.cells (List.toArray (cs ++ rest)) el fr) ∧ RL ρ I w e.cells cs ∧ clear fr (cs ++ rest).length))
    (hos : w'.os = w.os) (htape : w'.tape = w.tape) (hout : w'.output = w.output) :
    Conc g (bindR ρ H.length x) I (H ++ [e]) w' ∧ Mono ρ I w (bindR ρ H.length x) I w' := by
  have hn := fresh_none c
  have gd := push_good c e x (fun b h => (hx b h).1) hsz hold hos htape hout
  have m := c.mono gd (fun id y h => bindR_old hn h)
  refine ⟨⟨?_, ?_, ?_, ?_, ?_, ?_, ?_, ?_⟩, m⟩
  · intro id h
    simp only [bindR] at h
    split at h
    · rename_i h'; subst h'; simp
    · have := c.dom id h; simp; omega
  · intro id h
    rcases getElem?_snoc h with ⟨g1, g2⟩ | ⟨g1, g2⟩
    · simp only [bindR, Nat.ne_of_lt g1, if_false]; exact c.res id g2
    · rw [← g2] at hl; simp [Ent.live] at hl
  · intro id b hb
    simp only [bindR] at hb
    split at hb
    · simp at hb; exact (hx b hb).2
    · have := c.blt id b hb; omega
  · intro i j b e1 e2 hi h1 hj h2 hbi hbj
    rcases getElem?_snoc hi with ⟨g1, g2⟩ | ⟨g1, g2⟩ <;> rcases getElem?_snoc hj with ⟨k1, k2⟩ | ⟨k1, k2⟩
    · simp only [bindR, Nat.ne_of_lt g1, Nat.ne_of_lt k1, if_false] at hbi hbj
      exact c.inj i j b e1 e2 g2 h1 k2 h2 hbi hbj
    · subst k1
      simp only [bindR, Nat.ne_of_lt g1, if_false] at hbi
      simp only [bindR, if_true, Option.some.injEq] at hbj
      have := c.blt i b hbi; have := hx b hbj; omega
    · subst g1
      simp only [bindR, Nat.ne_of_lt k1, if_false] at hbj
      simp only [bindR, if_true, Option.some.injEq] at hbi
      have := c.blt j b hbj; have := hx b hbi; omega
    · omega
  · intro id cs f h
    rcases getElem?_snoc h with ⟨g1, g2⟩ | ⟨g1, g2⟩
    · obtain ⟨b, el', fr, us, k1, k2, k3, k4⟩ := c.blk id cs f g2
      have hlt := c.blt id b k1
      exact ⟨b, el', fr, us, by simpa [bindR, Nat.ne_of_lt g1] using k1, by rw [hold b hlt]; exact k2, RL_mono m _ _ k3, k4⟩
    · subst g1
      obtain ⟨b, el, fr, us, k1, k2, k3, k4⟩ := h1 cs f g2.symm
      exact ⟨b, el, fr, us, by simp [bindR, k1], k2, RL_mono m _ _ k3, k4⟩
  · intro id e' h hg
    rcases getElem?_snoc h with ⟨g1, g2⟩ | ⟨g1, g2⟩
    · obtain ⟨k0, ⟨k1, k2⟩ | ⟨b, el', fr, us, rest, k1, k2, k3, k4⟩⟩ := c.grow id e' g2 hg
      · exact ⟨k0, .inl ⟨by simpa [bindR, Nat.ne_of_lt g1] using k1, k2⟩⟩
      · have hlt := c.blt id b k1
        exact ⟨k0, .inr ⟨b, el', fr, us, rest, by simpa [bindR, Nat.ne_of_lt g1] using k1, by rw [hold b hlt]; exact k2, RL_mono m _ _ k3, k4⟩⟩
    · subst g1 g2
      obtain ⟨k0, ⟨k1, k2⟩ | ⟨b, el', fr, us, rest, k1, k2, k3, k4⟩⟩ := h2 hg
      · exact ⟨k0, .inl ⟨by simp [bindR, k1], k2⟩⟩
      · exact ⟨k0, .inr ⟨b, el', fr, us, rest, by simp [bindR, k1], k2, RL_mono m _ _ k3, k4⟩⟩
  · intro b o hb
    obtain ⟨h1, h2⟩ := c.imm b o hb
    exact ⟨by omega, fun h => h2 (gd.wrt b o h1 h)⟩
  · intro gl cs h
    obtain ⟨us, h1, h2⟩ := c.glob gl cs h
    exact ⟨us, GL_mono m h1, h2.mono m.imm⟩

/-- The world with a block's cells written anew. -/
def rewr (w : World) (b : Nat) (o : Obj) : World := { w with heap := w.heap.setIfInBounds b o }

theorem heap_rewr {b : Nat} {o : Obj} (h : b < w.heap.size) (i : Nat) : (rewr w b o).heap[i]? = if i = b then some o else w.heap[i]? := by
  simp only [rewr, Array.getElem?_setIfInBounds]
  by_cases e : b = i
  · subst e; simp [h]
  · rw [if_neg e, if_neg (Ne.symm e)]

theorem set_cases {id : Nat} {e' : Ent} {i : Nat} {e1 : Ent} (h : (H.set id e')[i]? = some e1) : (i = id ∧ e1 = e') ∨ (i ≠ id ∧ H[i]? = some e1) := by
  rw [List.getElem?_set] at h
  by_cases hi : id = i
  · subst hi
    simp only [if_true] at h
    split at h
    · simp only [Option.some.injEq] at h
      exact .inl ⟨rfl, h.symm⟩
    · simp at h
  · rw [if_neg hi] at h
    exact .inr ⟨fun h' => hi h'.symm, h⟩

theorem write_good {id b : Nat} {el : TypeId} {fr : Nat × Nat} {all all' : List Value} {e e' : Ent} (hid : H[id]? = some e) (hl : e.live = true)
    (hb : ρ id = some (some b)) (hw : w.heap[b]? = some (.cells all.toArray el fr)) (hlen : all'.length = all.length) (hfz : ∀ o, inFrz e.frz o → all'[o]? = all[o]?)
    (he : e'.frz = e.frz) (hg : e'.grows = true → e.grows = true) : Good ρ I H w ρ I (H.set id e') (rewr w b (.cells all'.toArray el fr)) := by
  have hlt : b < w.heap.size := (Array.getElem?_eq_some_iff.1 hw).1
  have hcell : ∀ b' o, ¬ Mut ρ H b' o → (rewr w b (.cells all'.toArray el fr)).cell? ⟨b', o, none⟩ = w.cell? ⟨b', o, none⟩ := by
    intro b' o hm
    by_cases hbb : b' = b
    · subst hbb
      have hin : inFrz e.frz o := by
        refine Classical.byContradiction fun hn => hm ⟨id, e, hid, hl, hb, hn⟩
      rw [cell_of_heap hw, cell_of_heap (cs := all') (el := el) (fr := fr) (by rw [heap_rewr hlt]; simp)]
      exact hfz o hin
    · simp only [World.cell?]
      rw [heap_rewr hlt, if_neg hbb]
  refine ⟨fun _ _ h => h, ?_, by simp, fun _ _ h => h, fun _ _ _ h => .inl h, rfl, rfl, rfl, by simp [rewr], fun b' o _ hm => hcell b' o hm, ?_, ?_, ?_, ?_⟩
  · intro i x _ ⟨e1, h1, h2⟩
    rcases set_cases h1 with ⟨rfl, rfl⟩ | ⟨_, h⟩
    · exact ⟨e, hid, hg h2⟩
    · exact ⟨e1, h, h2⟩
  · intro b' _ hm
    rw [heap_rewr hlt]
    split
    · rename_i hbb
      subst hbb
      have : all' = all := by
        apply List.ext_getElem?
        intro o
        exact hfz o (Classical.byContradiction fun hn => hm o ⟨id, e, hid, hl, hb, hn⟩)
      rw [this, hw]
    · rfl
  · intro b' _
    unfold bsz
    rw [heap_rewr hlt]
    by_cases hbb : b' = b
    · subst hbb; rw [if_pos rfl, hw]; simp [hlen]
    · rw [if_neg hbb]
  · intro b' o _ ⟨i, e1, h1, h2, h3, h4⟩
    rcases set_cases h1 with ⟨rfl, rfl⟩ | ⟨_, h⟩
    · exact ⟨i, e, hid, hl, h3, by rw [← he]; exact h4⟩
    · exact ⟨i, e1, h, h2, h3, h4⟩
  · intro b' _ ⟨i, e1, h1, h2, h3⟩
    rcases set_cases h1 with ⟨rfl, rfl⟩ | ⟨_, h⟩
    · exact ⟨i, e, hid, hl, h3⟩
    · exact ⟨i, e1, h, h2, h3⟩

theorem write_conc (c : Conc g ρ I H w) {id b : Nat} {el : TypeId} {fr : Nat × Nat} {all all' : List Value} {e e' : Ent} (hid : H[id]? = some e) (hl : e.live = true)
    (hb : ρ id = some (some b)) (hw : w.heap[b]? = some (.cells all.toArray el fr)) (hlen : all'.length = all.length) (hfz : ∀ o, inFrz e.frz o → all'[o]? = all[o]?)
    (he : e'.frz = e.frz) (hg : e'.grows = true → e.grows = true) (hl' : e'.live = true) (hcl : clear fr all.length)
    (h1 : ∀ cs f, e' = .blk cs f → RL ρ I w cs all') (h2 : e'.grows = true → e'.even ∧ ∃ us rest, all' = us ++ rest ∧ RL ρ I w e'.cells us) :
    Conc g ρ I (H.set id e') (rewr w b (.cells all'.toArray el fr)) ∧ Mono ρ I w ρ I (rewr w b (.cells all'.toArray el fr)) := by
  have gd := write_good (I := I) hid hl hb hw hlen hfz he hg
  have m := c.mono gd (fun _ _ h => h)
  have hlt : b < w.heap.size := (Array.getElem?_eq_some_iff.1 hw).1
  have live : ∀ (k : Nat) (e3 : Ent), (H.set id e')[k]? = some e3 → e3.live = true → ∃ e4 : Ent, H[k]? = some e4 ∧ e4.live = true := by
    intro k e3 hk l3
    rcases set_cases hk with ⟨rfl, rfl⟩ | ⟨_, h⟩
    · exact ⟨e, hid, hl⟩
    · exact ⟨e3, h, l3⟩
  refine ⟨⟨fun i h => by simpa using c.dom i h, fun i h => by
    rcases set_cases h with ⟨_, h⟩ | ⟨_, h⟩
    · rw [← h] at hl'; simp [Ent.live] at hl'
    · exact c.res i h, fun i x hx => by simpa [rewr] using c.blt i x hx, ?_, ?_, ?_, ?_, ?_⟩, m⟩
  · intro i j x e1 e2 hi l1 hj l2 r1 r2
    obtain ⟨e3, k1, k2⟩ := live i e1 hi l1
    obtain ⟨e4, k3, k4⟩ := live j e2 hj l2
    exact c.inj i j x e3 e4 k1 k2 k3 k4 r1 r2
  · intro i cs f h
    rcases set_cases h with ⟨rfl, h'⟩ | ⟨hi, h⟩
    · exact ⟨b, el, fr, all', hb, by rw [heap_rewr hlt, if_pos rfl], RL_mono m _ _ (h1 cs f h'.symm), by rw [hlen]; exact hcl⟩
    · obtain ⟨b1, el1, fr1, us, k1, k2, k3, k4⟩ := c.blk i cs f h
      have hne : b1 ≠ b := fun hbb => hi (c.inj i id b _ e h rfl hid hl (hbb ▸ k1) hb)
      exact ⟨b1, el1, fr1, us, k1, by rw [heap_rewr hlt, if_neg hne]; exact k2, RL_mono m _ _ k3, k4⟩
  · intro i e1 h hg1
    rcases set_cases h with ⟨rfl, rfl⟩ | ⟨hi, h⟩
    · obtain ⟨k0, us, rest, rfl, hr⟩ := h2 hg1
      exact ⟨k0, .inr ⟨b, el, fr, us, rest, hb, by rw [heap_rewr hlt, if_pos rfl], RL_mono m _ _ hr, by rw [hlen]; exact hcl⟩⟩
    · obtain ⟨k0, ⟨k1, k2⟩ | ⟨b1, el1, fr1, us, rest, k1, k2, k3, k4⟩⟩ := c.grow i e1 h hg1
      · exact ⟨k0, .inl ⟨k1, k2⟩⟩
      · have hlv : e1.live = true := by cases e1 <;> simp [Ent.grows] at hg1 <;> rfl
        have hne : b1 ≠ b := fun hbb => hi (c.inj i id b _ e h hlv hid hl (hbb ▸ k1) hb)
        exact ⟨k0, .inr ⟨b1, el1, fr1, us, rest, k1, by rw [heap_rewr hlt, if_neg hne]; exact k2, RL_mono m _ _ k3, k4⟩⟩
  · intro x o hx
    obtain ⟨k1, k2⟩ := c.imm x o hx
    exact ⟨by simpa [rewr] using k1, fun h => k2 (gd.wrt x o k1 h)⟩
  · intro gl cs h
    obtain ⟨us, k1, k2⟩ := c.glob gl cs h
    exact ⟨us, GL_mono m k1, k2.mono m.imm⟩

theorem spliceV_nil' (c : List Value) (off : Nat) : spliceV c off [] = c := by simp [spliceV]
theorem spliceV_cons' (c : List Value) (off : Nat) (v : Value) (l : List Value) (h : off + (l.length + 1) ≤ c.length) : spliceV c off (v :: l) = spliceV (c.set off v) (off + 1) l := by
  simp only [spliceV, List.length_cons]
  rw [List.take_set, List.drop_set, if_pos (by omega)]
  have h1 : off < c.length := by omega
  rw [List.take_succ_eq_append_getElem h1, List.set_append_right _ _ (by simp; omega)]
  simp [List.length_take, Nat.min_eq_left (Nat.le_of_lt h1)]
  rw [show off + 1 + l.length = off + (l.length + 1) by omega]

theorem setCell_rewr {b off : Nat} {el : TypeId} {fr : Nat × Nat} {all : List Value} (hw : w.heap[b]? = some (.cells all.toArray el fr)) (v : Value) :
    w.setCell ⟨b, off, none⟩ v = rewr w b (.cells (all.set off v).toArray el fr) := by
  have hlt : b < w.heap.size := (Array.getElem?_eq_some_iff.1 hw).1
  have hv : w.heap[b] = .cells all.toArray el fr := (Array.getElem?_eq_some_iff.1 hw).2
  simp only [World.setCell, rewr, World.mk.injEq, and_true]
  apply Array.ext_getElem?
  intro i
  rw [Array.getElem?_modify, Array.getElem?_setIfInBounds]
  by_cases e : b = i
  · subst e
    simp [hlt, hv]
  · simp [e]

theorem setCells_rewr {b : Nat} {el : TypeId} {fr : Nat × Nat} : ∀ (vs : List Value) (off : Nat) (all : List Value) (w : World), w.heap[b]? = some (.cells all.toArray el fr) → off + vs.length ≤ all.length →
    w.setCells b off vs = rewr w b (.cells (spliceV all off vs).toArray el fr)
  | [], off, all, w, hw, h => by
    simp only [World.setCells, spliceV_nil']
    have hlt : b < w.heap.size := (Array.getElem?_eq_some_iff.1 hw).1
    have hv : w.heap[b] = .cells all.toArray el fr := (Array.getElem?_eq_some_iff.1 hw).2
    cases w
    simp only [rewr, World.mk.injEq, and_true]
    apply Array.ext_getElem?
    intro i
    rw [Array.getElem?_setIfInBounds]
    by_cases e : b = i
    · subst e; simp_all
    · simp [e]
  | v :: vs, off, all, w, hw, h => by
    simp only [List.length_cons] at h
    have hlt : b < w.heap.size := (Array.getElem?_eq_some_iff.1 hw).1
    rw [World.setCells, setCell_rewr hw, setCells_rewr vs (off + 1) (all.set off v) _ (by rw [heap_rewr hlt, if_pos rfl]) (by simp; omega), spliceV_cons' _ _ _ _ (by omega)]
    simp [rewr]


theorem spliceV_get_out {c l : List Value} {off o : Nat} (h : off + l.length ≤ c.length) (ho : o < off ∨ off + l.length ≤ o) : (spliceV c off l)[o]? = c[o]? := by
  simp only [spliceV]
  rcases ho with ho | ho
  · rw [List.getElem?_append_left (by simp; omega), List.getElem?_take, if_pos ho]
  · rw [List.getElem?_append_right (by simp; omega), List.getElem?_append_right (by simp; omega), List.getElem?_drop]
    congr 1
    simp
    omega

theorem run_storeVar {t : Nat} {ti : TI} (ht : G.ty t = some ti) {b off : Nat} {v : Value} (hsz : v.cells.size = ti.size) (h1 : ∀ x ∈ v.cells.toList, x.oneCell' = true)
    {el : TypeId} {fr : Nat × Nat} {all : List Value} (hw : w.heap[b]? = some (.cells all.toArray el fr)) (hle : off + ti.size ≤ all.length) (hcl : clear fr all.length) :
    (storeVar t ⟨b, off, none⟩ v).run P w = .ok () (rewr w b (.cells (spliceV all off v.cells.toList).toArray el fr)) := by
  obtain ⟨j, d, g1, g2, g3, _, _⟩ := ty_ok ht
  have hlen : v.cells.toList.length = ti.size := by simpa using hsz
  have := run_storeCells_cells (P := P) b off v.cells.toList 0 w
    (fun i hi => by rw [cell_of_heap hw, List.getElem?_eq_getElem (by omega)]; rfl)
    (fun i hi => by
      simp only [World.frozen?, hw, Nat.add_zero]
      have := hcl.2 (off + i) (by omega)
      simp only [Bool.and_eq_false_iff, decide_eq_false_iff_not]
      omega)
    h1
  simp only [Nat.add_zero] at this
  rw [setCells_rewr _ _ _ _ hw (by omega)] at this
  simp [storeVar, run_sizeOf g1, hsz, g3, this]

/-- May some cells be written? -/
def frzFree (f : List (Nat × Nat)) (off n : Nat) : Bool := f.all fun r => leB (off + n) r.1 || leB r.2 off
theorem frzFree_iff {f : List (Nat × Nat)} {off n : Nat} (h : frzFree f off n = true) : ∀ r ∈ f, off + n ≤ r.1 ∨ r.2 ≤ off := by
  intro r hr
  have := List.all_eq_true.1 h r hr
  simpa [leB_iff] using this

theorem setX_sound : ∀ {c : List AV} {vs : List Value} {off n : Nat} {i : Int} {v : AV} {x : Value} {c' : List AV}, RL ρ I w c vs → (0 ≤ i ∧ i < n) → off + n ≤ szL c → szA v = 1 → isAg v = false → rel ρ I w v x → setX c off n i v = some c' →
    RL ρ I w c' (vs.set (off + i.toNat) x) ∧ szL c' = szL c
  | [], vs, off, n, i, v, x, c', h, hi, hle, hs, ha, hx, hc => by simp [szL] at hle; omega
  | a :: as, vs, off, n, i, v, x, c', ⟨ys, zs, h0, h1, h2⟩, hi, hle, hs, ha, hx, hc => by
    subst h0
    have hl := R_len a ys h1
    have hl2 := RL_len as zs h2
    simp only [szL] at hle
    unfold setX at hc
    cases hq : leB (szA a) off with
    | true =>
      have hq' := leB_iff.1 hq
      rw [hq] at hc
      simp only [cond_true] at hc
      split at hc
      · rename_i l hl'
        simp only [Option.some.injEq] at hc
        subst hc
        obtain ⟨k1, k2⟩ := setX_sound h2 hi (by omega) hs ha hx hl'
        refine ⟨?_, by simp only [szL, k2]⟩
        rw [List.set_append_right _ _ (by omega), show off + i.toNat - ys.length = off - szA a + i.toNat by omega]
        exact RL_cons.2 ⟨ys, _, rfl, h1, k1⟩
      · simp at hc
    | false =>
      rw [hq] at hc
      simp only [cond_false] at hc
      cases ho : off == 0
      · rw [ho] at hc
        simp only [cond_false, Option.some.injEq] at hc
        subst hc
        have hR := rel_one ha hx
        have hcells : RL ρ I w (a :: as) (ys ++ zs) := RL_cons.2 ⟨ys, zs, rfl, h1, h2⟩
        have := RL_set (a :: as) (ys ++ zs) (off + i.toNat) v [x] hcells hR (by simp only [szL]; omega) (by omega)
        rw [spliceV_one _ (by simp; omega)] at this
        refine ⟨this, ?_⟩
        have e1 := RL_len _ _ this
        have e2 := RL_len _ _ hcells
        simp only [List.length_set] at e1
        omega
      rw [ho] at hc
      simp only [cond_true] at hc
      obtain rfl : off = 0 := by simpa using ho
      split at hc
      · cases hn : leB n _ <;> rw [hn] at hc <;> simp only [cond_true, cond_false, reduceCtorEq, Option.some.injEq] at hc
        subst hc
        have hn' := leB_iff.1 hn
        obtain ⟨rfl, h3⟩ := h1
        rw [rel_u8] at hx
        subst hx
        refine ⟨?_, rfl⟩
        rw [List.set_append_left _ _ (by rw [length_v8]; omega), Nat.zero_add, v8_set]
        exact RL_cons.2 ⟨_, zs, rfl, ⟨rfl, by simpa using h3⟩, h2⟩
      · cases hn : leB n _ <;> rw [hn] at hc <;> simp only [cond_true, cond_false, reduceCtorEq, Option.some.injEq] at hc
        subst hc
        have hn' := leB_iff.1 hn
        obtain ⟨rfl, h3⟩ := h1
        rw [rel_u32] at hx
        subst hx
        refine ⟨?_, rfl⟩
        rw [List.set_append_left _ _ (by rw [length_v32]; omega), Nat.zero_add, v32_set]
        exact RL_cons.2 ⟨_, zs, rfl, ⟨rfl, by simpa using h3⟩, h2⟩
      · cases hn : leB n _ <;> rw [hn] at hc <;> simp only [cond_true, cond_false, reduceCtorEq, Option.some.injEq] at hc
        subst hc
        have hn' := leB_iff.1 hn
        obtain ⟨rfl, h3⟩ := h1
        rw [rel_u64] at hx
        subst hx
        refine ⟨?_, rfl⟩
        rw [List.set_append_left _ _ (by rw [length_v64]; omega), Nat.zero_add, v64_set]
        exact RL_cons.2 ⟨_, zs, rfl, ⟨rfl, by simpa using h3⟩, h2⟩
      · simp only [Option.some.injEq] at hc
        subst hc
        have hR := rel_one ha hx
        have hcells : RL ρ I w (a :: as) (ys ++ zs) := RL_cons.2 ⟨ys, zs, rfl, h1, h2⟩
        have := RL_set (a :: as) (ys ++ zs) i.toNat v [x] hcells hR (by simp only [szL]; omega) (by omega)
        rw [spliceV_one _ (by simp; omega)] at this
        rw [Nat.zero_add]
        refine ⟨this, ?_⟩
        have e1 := RL_len _ _ this
        have e2 := RL_len _ _ hcells
        simp only [List.length_set] at e1
        omega
theorem setX1_sound {c : List AV} {vs : List Value} {off n : Nat} {i : Int} {v : AV} {x : Value} {c' : List AV} (h : RL ρ I w c vs) (hi : 0 ≤ i ∧ i < n) (hle : off + n ≤ szL c) (hs : szA v = 1) (ha : isAg v = false) (hx : rel ρ I w v x) (hc : setX1 c off n i v = some c') :
    RL ρ I w c' (vs.set (off + i.toNat) x) ∧ szL c' = szL c := by
  unfold setX1 at hc
  split at hc
  · simp only [Option.some.injEq] at hc
    subst hc
    obtain ⟨ys, zs, rfl, ⟨rfl, h1⟩, h2⟩ := RL_cons.1 h
    cases h2
    rw [rel_u8] at hx
    subst hx
    rw [List.append_nil, ofs_eq, v8_set]
    exact ⟨RL_cons.2 ⟨_, [], by simp, ⟨rfl, by simpa using h1⟩, rfl⟩, rfl⟩
  · simp only [Option.some.injEq] at hc
    subst hc
    obtain ⟨ys, zs, rfl, ⟨rfl, h1⟩, h2⟩ := RL_cons.1 h
    cases h2
    rw [rel_u32] at hx
    subst hx
    rw [List.append_nil, ofs_eq, v32_set]
    exact ⟨RL_cons.2 ⟨_, [], by simp, ⟨rfl, by simpa using h1⟩, rfl⟩, rfl⟩
  · simp only [Option.some.injEq] at hc
    subst hc
    obtain ⟨ys, zs, rfl, ⟨rfl, h1⟩, h2⟩ := RL_cons.1 h
    cases h2
    rw [rel_u64] at hx
    subst hx
    rw [List.append_nil, ofs_eq, v64_set]
    exact ⟨RL_cons.2 ⟨_, [], by simp, ⟨rfl, by simpa using h1⟩, rfl⟩, rfl⟩
  · exact setX_sound h hi hle hs ha hx hc
end
end Go.V

/- The abstract layer (second state), part H: operations. -/
set_option linter.unusedSimpArgs false
set_option linter.unusedVariables false
namespace Go.V
open Go
noncomputable section

def ofInt (k : IntKind) (n : Int) : AV :=
  match k with
  | .u8 => bif inB n 256 then .u8 (UInt8.ofNat n.toNat) else .int k n
  | .u32 => bif inB n 4294967296 then .u32 (UInt32.ofNat n.toNat) else .int k n
  | .u64 => bif inB n 18446744073709551616 then .u64 (UInt64.ofNat n.toNat) else .int k n
  | _ => .int k n

def ofVal : Value → AV
  | .int k n => ofInt k n
  | .bool b => .bool b
  | .string s => .str s.data.toList
  | .slice none 0 0 => .vec8 true []
  | v => .raw v

theorem rel_ofInt {ρ : Rho} {I : Imm} {w : World} (k : IntKind) (n : Int) : rel ρ I w (ofInt k n) (.int k n) := by
  cases k <;> simp only [ofInt] <;> try exact rel_int.2 rfl
  case u8 =>
    cases h : inB n 256
    · exact rel_int.2 rfl
    · have := inB_iff.1 h
      rw [cond_true, rel_u8]; simp only [Value.int.injEq, true_and, UInt8.toNat_ofNat']; omega
  case u32 =>
    cases h : inB n 4294967296
    · exact rel_int.2 rfl
    · have := inB_iff.1 h
      rw [cond_true, rel_u32]; simp only [Value.int.injEq, true_and, UInt32.toNat_ofNat']; omega
  case u64 =>
    cases h : inB n 18446744073709551616
    · exact rel_int.2 rfl
    · have := inB_iff.1 h
      rw [cond_true, rel_u64]; simp only [Value.int.injEq, true_and, UInt64.toNat_ofNat']; omega

theorem rel_nil8 {ρ : Rho} {I : Imm} {w : World} {f : Bool} : rel ρ I w (.vec8 f []) (.slice none 0 0) :=
  rel_vec8.2 ⟨none, 0, rfl, Nat.le_refl _, fun _ => rfl, .inl rfl⟩

theorem rel_ofVal {ρ : Rho} {I : Imm} {w : World} (v : Value) : rel ρ I w (ofVal v) v := by
  unfold ofVal
  split
  · exact rel_ofInt _ _
  · exact rel_bool.2 rfl
  · rw [rel_str]
  · exact rel_nil8
  · exact rel_raw.2 rfl

section
variable {P : Program} (G : Env P)

/-- A place of a list, by recursors alone: the kernel is quick at them. -/
def tget (t : List AV) : Nat → AV := @List.rec AV (fun _ => Nat → AV) (fun _ => .any) (fun a _ ih n => @Nat.rec (fun _ => AV) a (fun m _ => ih m) n) t
theorem tget_eq : ∀ (t : List AV) (n : Nat), tget t n = t.getD n .any
  | [], _ => rfl
  | _ :: _, 0 => rfl
  | _ :: as, n + 1 => tget_eq as n
def oget (t : List (Option TI)) : Nat → Option TI := @List.rec (Option TI) (fun _ => Nat → Option TI) (fun _ => none) (fun a _ ih n => @Nat.rec (fun _ => Option TI) a (fun m _ => ih m) n) t
theorem oget_eq : ∀ (t : List (Option TI)) (n : Nat), oget t n = (t[n]?).join
  | [], _ => rfl
  | _ :: _, 0 => rfl
  | _ :: as, n + 1 => oget_eq as n
/-- An operand's abstract value. -/
def evA (t : List AV) : Operand → AV
  | .tmp i => tget t i
  | .const v => ofVal v
  | .global g => match G.g g with
    | some c => .vp c 0
    | none => .raw (.pointer (some ⟨g, 0, none⟩))
  | .func f => .fn (.func f) [] []

def sliceL {α : Type} (lo hi : Option Int) (l : List α) : List α :=
  match lo, hi with
  | none, none => l
  | none, some h => l.take h.toNat
  | some l0, none => l.drop l0.toNat
  | some l0, some h => (l.take h.toNat).drop l0.toNat

/-- Are these bounds of a slice in order? -/
def sliceOk (lo hi : Option Int) (len : Nat) : Bool :=
  match lo, hi with
  | none, none => true
  | none, some h => nnB h && leB h.toNat len
  | some l, none => nnB l && leB l.toNat len
  | some l, some h => (nnB l && leB l.toNat h.toNat) && (nnB h && leB h.toNat len)

def optI (ev : Operand → AV) : Option Operand → Option (Option Int)
  | none => some none
  | some o => match (ev o).toI with
    | some (_, n) => some (some n)
    | none => none

def loN : Option Int → Nat
  | none => 0
  | some l => l.toNat
def hiN (len : Nat) : Option Int → Nat
  | none => len
  | some h => h.toNat

/-- A slice of a string, of a slice, of an array behind an address. -/
def aSlice (ti : TI) (H : Heap) (x : AV) (lo hi : Option Int) : Option (Bool × AV) :=
  match ti.kind, x with
  | .string, .str s => some (sliceOk lo hi s.length, .str (sliceL lo hi s))
  | .slice _, .vec8 full l => some (sliceOk lo hi l.length, .vec8 (full && hi.isNone) (sliceL lo hi l))
  | .slice e, .vec full k rows => match G.ty e with
    | some te => some (sliceOk lo hi rows.length && te.size == k, .vec (full && hi.isNone) k (sliceL lo hi rows))
    | none => none
  | .slice e, .sl id off k len => match G.ty e with
    | some te => some (sliceOk lo hi len && te.size == k, .sl id (off + loN lo * k) k (hiN len hi - loN lo))
    | none => none
  | .ptr a, .ptr id off => match G.ty a with
    | some ta => match ta.kind with
      | .arr n e => match G.ty e with
        | some te => match entCells H id with
          | some c => some ((sliceOk lo hi n && leB (off + n * te.size) (szL c)) && te.size != 0, .sl id (off + loN lo * te.size) te.size (hiN n hi - loN lo))
          | none => none
        | none => none
      | _ => none
    | none => none
  | _, _ => none

def aConvert (ts td : TI) (H : Heap) (x : AV) : Option (Bool × AV) :=
  match ts.kind, td.kind with
  | .int _, .int k => match cvt k x with
    | some v => some (true, v)
    | none => none
  | .string, .string => match x with
    | .str s => some (true, .str s)
    | _ => none
  | .slice e, .string => match G.ty e with
    | some te => match te.kind with
      | .int .u8 => match content8 H x with
        | some (p, l) => some (p, .str l)
        | none => none
      | _ => none
    | none => none
  | _, _ => none

def aval0 (op : Op) (ev : Operand → AV) (H : Heap) : Option (Bool × AV) :=
  match op with
  | .move x => some (true, ev x)
  | .assign x => some (true, ev x)
  | .pick c a b => match ev c with
    | .bool r => some (true, pickA r (ev a) (ev b))
    | _ => none
  | .extract t i => match ev t with
    | .tup l => some (ltB i l.length, l.getD i .any)
    | _ => none
  | .load t a => match G.ty t with
    | some ti => aload ti H (ev a)
    | none => none
  | .fieldAddr s x f => match G.ty s with
    | some ts => match ts.kind with
      | .str fs => match fs[f]? with
        | some (off, ft) => match G.ty ft with
          | some tf => match addrAdd off (ev x) with
            | some v => some (tf.size != 0, v)
            | none => none
          | none => none
        | none => none
      | _ => none
    | none => none
  | .indexAddr t x i => match (ev i).toI with
    | some (_, n) => match G.ty t with
      | some ti => aIndexAddr G ti (ev x) n
      | none => none
    | none => none
  | .index t x i => match (ev i).toI with
    | some (_, n) => match G.ty t with
      | some ti => aIndex G ti (ev x) n
      | none => none
    | none => none
  | .field t x f => match G.ty t with
    | some ti => aField G ti (ev x) f
    | none => none
  | .binOp op t x y _ => aBin G op t (ev x) (ev y)
  | .unOp op _ x => match aUn op (ev x) with
    | some v => some (true, v)
    | none => none
  | .convert s d x => match G.ty s with
    | some ts => match G.ty d with
      | some td => aConvert G ts td H (ev x)
      | none => none
    | none => none
  | .makeFunc fn first caps => some (true, .fn fn (first.toList.map ev) (caps.toList.map ev))
  | .nilCheck x => match ev x with
    | .ptr id off => some (true, .ptr id off)
    | .vp c i => some (true, .vp c i)
    | .fn (.func f) a b => some (true, .fn (.func f) a b)
    | _ => none
  | .call c => match c.callee with
    | .value fo => match ev fo with
      | .fn (.func f) [] [] => aext (G.x f) (c.args.toList.map ev)
      | _ => none
    | .builtin .len => match c.args.toList.map ev, c.argTypes[0]? with
      | [x], some t => match G.ty t with
        | some ti => match alen ti.kind x with
          | some v => some (true, v)
          | none => none
        | none => none
      | _, _ => none
    | .builtin .min => match aminmax false (c.args.toList.map ev) with
      | some v => some (true, v)
      | none => none
    | .builtin .max => match aminmax true (c.args.toList.map ev) with
      | some v => some (true, v)
      | none => none
    | _ => none
  | .build t parts => abuild G t (parts.toList.map fun p => (p.1, ev p.2))
  | _ => none

/-- A call of a function, and with what. -/
def acall (op : Op) (ev : Operand → AV) : Option (FuncId × List AV) :=
  match op with
  | .call c => match c.callee with
    | .value fo => match ev fo with
      | .fn (.func f) first caps => some (f, first ++ (c.args.toList.map ev ++ caps))
      | _ => none
    | _ => none
  | _ => none

/-- An entry with other cells. -/
def updEnt : Ent → List AV → Option Ent
  | .blk _ f, c => some (.blk c f)
  | .grow8 l f, c => match c with
    | [.b8 _ l'] => some (.grow8 l' f)
    | _ => none
  | .grow k _ f, c => bif c.all fun a => szA a == k then some (.grow k c f) else none
  | _, _ => none

/-- A store: its condition, which entry, and what that becomes. -/
def astore (op : Op) (ev : Operand → AV) (H : Heap) : Option (Bool × Nat × Ent) :=
  match op with
  | .store t a x => match G.ty t with
    | some ti => match ev a with
      | .ptr id off => match H[id]? with
        | some e => match updEnt e (setL e.cells off (ev x)) with
          | some e' => some ((((known (ev x) && oneA (ev x)) && (szA (ev x) == ti.size && ti.size != 0)) && leB (off + ti.size) (szL e.cells)) && frzFree e.frz off ti.size, id, e')
          | none => none
        | none => none
      | .pix id off n i => match H[id]? with
        | some e => match setX1 e.cells off n i (ev x) with
          | some c => match updEnt e c with
            | some e' => some ((((known (ev x) && oneA (ev x)) && (szA (ev x) == 1 && ti.size == 1)) && (leB (off + n) (szL e.cells) && !isAg (ev x))) && frzFree e.frz off n, id, e')
            | none => none
          | none => none
        | none => none
      | _ => none
    | none => none
  | _ => none

def isAlloc : Op → Option TypeId
  | .alloc t => some t
  | _ => none

/-- Operations that make or write memory: a condition, the value, the memory, and which references are forgotten. -/
def aeff (op : Op) (ev : Operand → AV) (H : Heap) : Option (Bool × AV × Heap × Option Nat) :=
  match op with
  | .alloc t => match G.ty t with
    | some ti => match ti.zero with
      | some z => some (known z, .ptr H.length 0, H ++ [.blk z.cells []], none)
      | none => none
    | none => none
  | .box _ x => some (known (ev x), .ptr H.length 0, H ++ [.blk (ev x).cells []], none)
  | .store t a x => match astore G (.store t a x) ev H with
    | some (c, id, e) => some (c, .tup [], H.set id e, none)
    | none => none
  | _ => none

end

section
variable {P : Program} {G : Env P} {ρ : Rho} {I : Imm} {H : Heap} {w : World}

theorem rel_evA (c : Conc G.g ρ I H w) {t : List AV} {a : Act} (h : RelT ρ I w t a) (x : Operand) : rel ρ I w (evA G t x) (a.eval x) := by
  cases x with
  | tmp i =>
    have := RV_getD h.tr i
    simpa [evA, tget_eq, Act.eval, Array.getD_eq_getD_getElem?, List.getD_eq_getElem?_getD] using this
  | const v => exact rel_ofVal v
  | global n =>
    simp only [evA, Act.eval]
    cases hg : G.g n with
    | none => exact rel_raw.2 rfl
    | some cs =>
      obtain ⟨vs, h1, h2⟩ := c.glob n cs hg
      exact rel_vp.2 ⟨vs, RL_mono ⟨fun _ _ h => by simp at h, fun _ _ h => ⟨h, rfl⟩, fun _ h => ⟨h, rfl⟩⟩ _ _ h1.1, n, 0, rfl, h2⟩
  | func f => exact rel_fn.2 ⟨#[], #[], rfl, by simp [RV], by simp [RV]⟩

theorem mapArr {α β : Type} (f : α → β) (xs : Array α) : (xs.toList.map f).toArray = xs.map f := by
  rw [← Array.toList_map, Array.toArray_toList]

theorem run_call_value {e : Operand → Value} {o : Oper} {c : Call} {fo : Operand} (hop : o.op = .call c) (hc : c.callee = .value fo) {f : FuncId} {first caps : Array Value} (hf : e fo = .func (.func f) first caps) :
    (execOp e o).run P w = (callFunc f (first ++ c.args.map e ++ caps)).run P w := by
  simp [execOp, hop, resolve, hc, Deferred.ofValue, hf, invoke]

theorem run_call_builtin {e : Operand → Value} {o : Oper} {c : Call} {b : Builtin} (hop : o.op = .call c) (hc : c.callee = .builtin b) :
    (execOp e o).run P w = (builtin b c.argTypes o.type (c.args.map fun | .const _ => true | _ => false) (c.args.map e)).run P w := by
  simp [execOp, hop, resolve, hc, invoke]
  rfl

theorem RV_mapev2 {ev : Operand → AV} {e : Operand → Value} (r : ∀ x, rel ρ I w (ev x) (e x)) : ∀ (l : List (Nat × Operand)),
    RV ρ I w (l.map ((fun p : Nat × AV => p.2) ∘ fun p => (p.1, ev p.2))) (l.map ((fun p : Nat × Value => p.2) ∘ fun p => (p.1, e p.2)))
  | [] => by simp [RV]
  | p :: l => by rw [List.map_cons, List.map_cons]; exact RV_cons.2 ⟨_, _, rfl, r p.2, RV_mapev2 r l⟩
theorem fold_splice : ∀ (l : List Value) (k off : Nat) (cs : Array Value), off + k + l.length ≤ cs.size →
    ((l.zipIdx k).foldl (fun cs (p : Value × Nat) => cs.setIfInBounds (off + p.2) p.1) cs).toList = spliceV cs.toList (off + k) l
  | [], k, off, cs, h => by simp [spliceV]
  | x :: l, k, off, cs, h => by
    rw [List.zipIdx_cons, List.foldl_cons, fold_splice l (k + 1) off _ (by simp at h ⊢; omega)]
    simp only [Array.toList_setIfInBounds]
    rw [show off + (k + 1) = off + k + 1 by omega, spliceV_cons' _ _ _ _ (by simp at h ⊢; omega)]

theorem afill_sound {place place' : Nat → Option (Nat × Nat)} : ∀ {parts : List (Nat × AV)} {vparts : List (Nat × Value)} {cells : List AV} {vs : Array Value} {c : Bool} {l : List AV},
    parts.map (·.1) = vparts.map (·.1) → RV ρ I w (parts.map (·.2)) (vparts.map (·.2)) → (∀ p ∈ parts, ∀ q, place p.1 = some q → place' p.1 = some q) → RL ρ I w cells vs.toList → afill place cells parts = some (c, l) → c = true →
    ∃ out, Instr.fill place' vs vparts = some out ∧ RL ρ I w l out.toList
  | [], vparts, cells, vs, c, l, hi, hr, hpl, hc, h, hcc => by
    cases vparts with
    | nil => simp [afill] at h; obtain ⟨_, rfl⟩ := h; exact ⟨vs, rfl, hc⟩
    | cons => simp at hi
  | (i, v) :: parts, vparts, cells, vs, c, l, hi, hr, hpl, hc, h, hcc => by
    cases vparts with
    | nil => simp at hi
    | cons q vparts =>
      obtain ⟨i', x⟩ := q
      simp only [List.map_cons, List.cons.injEq] at hi
      obtain ⟨rfl, hi⟩ := hi
      obtain ⟨x', xs', hxe, hr1, hr2⟩ := RV_cons.1 hr
      simp only [List.map_cons, List.cons.injEq] at hxe
      obtain ⟨rfl, rfl⟩ := hxe
      unfold afill at h
      split at h
      · simp at h
      · rename_i off size hp
        split at h
        · rename_i c' l' hf
          simp only [Option.some.injEq, Prod.mk.injEq] at h
          obtain ⟨rfl, rfl⟩ := h
          simp only [Bool.and_eq_true, beq_iff_eq] at hcc
          obtain ⟨⟨hk, hlen, hin, hz⟩, hc'⟩ := hcc
          have hin := leB_iff.1 hin
          have rc := known_cells hr1 hk
          have lc := R_len _ _ rc
          have lv := RL_len _ _ hc
          have hp' := hpl (i, v) (by simp) _ hp
          simp only [Array.length_toList] at lc lv
          have e : (x.cells.zipIdx.foldl (fun cs (p : Value × Nat) => cs.setIfInBounds (off + p.2) p.1) vs).toList = spliceV vs.toList off x.cells.toList := by
            rw [← Array.foldl_toList, Array.toList_zipIdx, fold_splice _ _ _ _ (by simp; omega)]; rfl
          have hs : RL ρ I w (setL cells off v) (x.cells.zipIdx.foldl (fun cs (p : Value × Nat) => cs.setIfInBounds (off + p.2) p.1) vs).toList := by
            rw [e]
            have hz' : size ≠ 0 := by simpa using hz
            exact RL_set _ _ _ _ _ hc rc (by omega) (by omega)
          obtain ⟨out, h1, h2⟩ := afill_sound hi hr2 (fun p hp => hpl p (by simp [hp])) hs hf hc'
          refine ⟨out, ?_, h2⟩
          unfold Instr.fill
          simp only [hp']
          rw [if_neg (by simp; omega)]
          exact h1
        · simp at h
end
end
end Go.V

/- The abstract layer (second state), part I: the model agrees with each operation. -/
set_option linter.unusedSimpArgs false
set_option linter.unusedVariables false
namespace Go.V
open Go
noncomputable section

section
variable {P : Program} {G : Env P} {ρ : Rho} {I : Imm} {H : Heap} {w : World}

theorem places_of : ∀ (fs : List Field), allTy G (fs.map fun f => (f.offset, f.type)) = true →
    ∃ places, fs.mapM (fun f => (P.info? f.type).map fun i => (f.offset, i.size)) = some places ∧ ∀ i q, aplace G (fs.map fun f => (f.offset, f.type)) i = some q → places[i]? = some q
  | [], _ => ⟨[], rfl, fun i q h => by simp [aplace] at h⟩
  | f :: fs, h => by
    simp only [allTy, List.map_cons, List.all_cons, Bool.and_eq_true] at h
    obtain ⟨pl, p1, p2⟩ := places_of fs h.2
    obtain ⟨tf, htf⟩ := Option.isSome_iff_exists.1 h.1
    obtain ⟨j, d, h1, h2, h3, h4, h5⟩ := ty_ok htf
    refine ⟨(f.offset, j.size) :: pl, ?_, ?_⟩
    · simp [List.mapM_cons, h1, p1]
    · intro i q hq
      cases i with
      | zero => simp [aplace, htf] at hq; simp [← hq, h3]
      | succ i => simp only [List.getElem?_cons_succ]; exact p2 i q (by simpa [aplace] using hq)

theorem zero_cells {z : AV} {v : Value} (hz : isAg z = true) (h : rel ρ I w z v) : RL ρ I w z.cells v.cells.toList := by
  obtain ⟨cs, rfl, hr⟩ := (rel_ag hz).1 h
  exact R_cells hr

theorem abuild_sound {ev : Operand → AV} {e : Operand → Value} (r : ∀ x, rel ρ I w (ev x) (e x)) {t : Nat} {parts : Array (Nat × Operand)} {p : Bool × AV}
    (h : abuild G t (parts.toList.map fun p => (p.1, ev p.2)) = some p) (hp : p.1 = true) : ∃ cells, P.built t (parts.map fun (i, x) => (i, e x)).toList = some cells ∧ rel ρ I w p.2 (.agg cells) := by
  have hm1 : (parts.toList.map fun p => (p.1, ev p.2)).map (·.1) = (parts.map fun (i, x) => (i, e x)).toList.map (·.1) := by simp
  have hm2 : RV ρ I w ((parts.toList.map fun p => (p.1, ev p.2)).map (·.2)) ((parts.map fun (i, x) => (i, e x)).toList.map (·.2)) := by
    simp only [Array.toList_map, List.map_map]
    exact RV_mapev2 r parts.toList
  unfold abuild at h
  split at h
  · rename_i ti ht
    obtain ⟨j, d, h1, h2, h3, h4, h5, h6, _⟩ := ty_ok ht
    split at h
    · rename_i z hz
      obtain ⟨zv, hzv, hck⟩ := h6 z hz
      have hzr := chkV_sound hck ρ I w
      split at h
      · rename_i n el hk
        rw [hk] at h5
        obtain rfl := TK.of_arr h5
        split at h
        · rename_i ie hie
          obtain ⟨je, de, e1, e2, e3, _⟩ := ty_ok hie
          split at h
          · rename_i c l hf
            simp only [Option.some.injEq] at h
            subst h
            simp only [Bool.and_eq_true] at hp
            obtain ⟨out, o1, o2⟩ := afill_sound (place' := fun i => some (i * je.size, je.size)) hm1 hm2 (fun p _ q hq => by simp only [aplaceE, e3] at hq; exact hq) (zero_cells hp.1 hzr) hf hp.2
            refine ⟨out, ?_, by simpa using mkAg_sound o2⟩
            simp only [Program.built, h1, h2, hzv, e1]
            exact o1
          · simp at h
        · simp at h
      · rename_i fs hk
        rw [hk] at h5
        obtain ⟨fields, rfl, rfl⟩ := TK.of_str h5
        split at h
        · rename_i c l hf
          simp only [Option.some.injEq] at h
          subst h
          simp only [Bool.and_eq_true] at hp
          obtain ⟨places, q1, q2⟩ := places_of (G := G) fields.toList hp.1.2
          obtain ⟨out, o1, o2⟩ := afill_sound (place' := (places.toArray[·]?)) hm1 hm2 (fun p _ q hq => by
            rw [List.getElem?_toArray]; exact q2 _ _ hq) (zero_cells hp.1.1 hzr) hf hp.2
          refine ⟨out, ?_, by simpa using mkAg_sound o2⟩
          simp only [Program.built, h1, h2, hzv, q1]
          exact o1
        · simp at h
      · simp at h
    · simp at h
  · simp at h

/-- What a slice of bytes holds, in memory. -/
theorem content8_sound {g : Nat → Option (List AV)} (c : Conc g ρ I H w) {a : AV} {v : Value} {p : Bool} {l : List UInt8} (h : content8 H a = some (p, l)) (hp : p = true) (r : rel ρ I w a v) :
    ∃ x cap, v = .slice x l.length cap ∧ (l = [] ∨ ∃ b off, x = some ⟨b, off, none⟩ ∧ ∀ (j : Nat) (y : Value), (v8 l)[j]? = some y → w.cell? ⟨b, off + j, none⟩ = some y) := by
  unfold content8 at h
  split at h
  · simp only [Option.some.injEq, Prod.mk.injEq] at h
    obtain ⟨rfl, rfl⟩ := h
    obtain ⟨x, cap, rfl, _, _, h4⟩ := rel_vec8.1 r
    refine ⟨x, cap, rfl, h4.imp (fun h => List.eq_nil_of_length_eq_zero h) ?_⟩
    rintro ⟨b, off, rfl, _, hl⟩
    exact ⟨b, off, rfl, fun j y hy => (hl j y hy).1⟩
  · rename_i id off k len
    have hr := rel_sl.1 r
    split at h
    · rename_i l0 f hid
      simp only [Option.some.injEq, Prod.mk.injEq] at h
      obtain ⟨rfl, rfl⟩ := h
      simp only [Bool.and_eq_true, beq_iff_eq] at hp
      obtain ⟨rfl, hp⟩ := hp
      have hp := leB_iff.1 hp
      have hl : ((l0.drop off).take len).length = len := by simp; omega
      rcases hr with ⟨b, cap, g1, rfl, g2, g3, g4⟩ | ⟨rfl, x, rfl⟩
      · refine ⟨_, cap, by rw [hl], .inr ⟨b, off, rfl, fun j y hy => ?_⟩⟩
        obtain ⟨vs, k1, k2⟩ := ent_cells c (l := [.b8 l0.length l0]) (by simp [entCells, hid]) g1
        obtain ⟨ys, zs, e0, ⟨rfl, e1⟩, e2⟩ := RL_head k1
        cases e2
        simp only [List.append_nil] at e0
        subst e0
        refine k2 _ _ ?_
        have hj : j < len := by have := (List.getElem?_eq_some_iff.1 hy).1; rw [length_v8, hl] at this; exact this
        rw [← hy]
        simp only [v8, List.getElem?_map, List.getElem?_take, List.getElem?_drop]
        rw [if_pos hj]
      · exact ⟨x, 0, by simp, .inl (by simp)⟩
    · rename_i cs f hid
      split at h
      · rename_i m l' hm
        simp only [Option.some.injEq, Prod.mk.injEq] at h
        obtain ⟨rfl, rfl⟩ := h
        simp only [Bool.and_eq_true, beq_iff_eq] at hp
        obtain ⟨rfl, rfl⟩ := hp
        rcases hr with ⟨b, cap, g1, rfl, g2, g3, g4⟩ | ⟨rfl, x, rfl⟩
        · obtain ⟨vs, k1, k2⟩ := ent_cells c (l := cs) (by simp [entCells, hid]) g1
          have hr := RL_take _ _ m (RL_drop _ _ off k1)
          rw [hm] at hr
          obtain ⟨ys, zs, e0, ⟨rfl, e1⟩, e2⟩ := RL_head hr
          cases e2
          simp only [List.append_nil] at e0
          refine ⟨_, cap, by rw [e1], .inr ⟨b, off, rfl, fun j y hy => k2 _ _ ?_⟩⟩
          have hj : j < m := by have := (List.getElem?_eq_some_iff.1 hy).1; rw [length_v8, e1] at this; exact this
          rw [← hy, ← e0, List.getElem?_take, if_pos hj, List.getElem?_drop]
        · exfalso
          cases hd : dropL cs off <;> simp [hd, takeL] at hm
      · simp at h
    · simp at h
  · simp at h

theorem run_loadBytes (b off : Nat) (l : List UInt8) (h : ∀ (j : Nat) (y : Value), (v8 l)[j]? = some y → w.cell? ⟨b, off + j, none⟩ = some y) :
    (loadCells ⟨b, off, none⟩ l.length).run P w = .ok (v8 l).toArray w := by
  have := run_loadCells_list (P := P) w ⟨b, off, none⟩ (v8 l) (fun j y hy => by rw [Addr.add_mid]; exact h j y hy)
  rwa [length_v8] at this

theorem push_bytes : ∀ (l : List UInt8) (acc : ByteArray), (l.map (fun x => (x.toNat : Int))).foldl (fun r n => r.push (UInt8.ofNat n.toNat)) acc = ⟨acc.data ++ l.toArray⟩
  | [], acc => by simp
  | x :: l, acc => by
    simp only [List.map_cons, List.foldl_cons, Int.toNat_natCast]
    rw [push_bytes l]
    simp [ByteArray.push]

theorem run_toString {v : Value} {l : List UInt8} {x : Option Addr} {cap : Nat} (hv : v = .slice x l.length cap)
    (h : l = [] ∨ ∃ b off, x = some ⟨b, off, none⟩ ∧ ∀ (j : Nat) (y : Value), (v8 l)[j]? = some y → w.cell? ⟨b, off + j, none⟩ = some y) :
    (Conv.bytesToString v).run P w = .ok (.string ⟨l.toArray⟩) w := by
  subst hv
  rcases h with rfl | ⟨b, off, rfl, h⟩
  · cases x with
    | none => simp [Conv.bytesToString, Sem.run_pure]; rfl
    | some a =>
      have := run_loadCells_list (P := P) w a [] (fun j y hy => by simp at hy)
      rw [run_bytesToString w _ _ _ [] (by simpa using this)]
      rfl
  · have h1 := run_loadBytes (P := P) b off l h
    rw [run_bytesToString w _ _ _ (l.map fun x => (x.toNat : Int)) (by rw [h1]; simp [v8])]
    rw [push_bytes]
    simp

theorem aval0_sound (c : Conc G.g ρ I H w) {ev : Operand → AV} {e : Operand → Value} (r : ∀ x, rel ρ I w (ev x) (e x)) {o : Oper} {p : Bool × AV} (h : aval0 G o.op ev H = some p) (hp : p.1 = true) :
    ∃ x, (execOp e o).run P w = .ok (.value x) w ∧ rel ρ I w p.2 x := by
  unfold aval0 at h
  split at h
  case h_1 x hop =>
    simp only [Option.some.injEq] at h
    subst h
    exact ⟨e x, by simp [execOp, hop], r x⟩
  case h_2 x hop =>
    simp only [Option.some.injEq] at h
    subst h
    exact ⟨e x, by simp [execOp, hop], r x⟩
  case h_3 cc a b hop =>
    split at h
    · rename_i b' hb
      simp only [Option.some.injEq] at h
      subst h
      have hc : e cc = .bool b' := by have := r cc; rw [hb, rel_bool] at this; exact this
      refine ⟨if b' then e a else e b, ?_, rel_pickA (r a) (r b)⟩
      simp only [execOp, hop, hc, asBool]
      cases b' <;> simp
    · simp at h
  case h_4 t i hop =>
    split at h
    · rename_i l hl
      simp only [Option.some.injEq] at h
      subst h
      have ht := r t
      rw [hl] at ht
      obtain ⟨cs, hcs, hr⟩ := rel_tup.1 ht
      have hp := ltB_iff.1 hp
      have hlen := RV_len hr
      have hi : i < cs.size := by simp at hlen; omega
      refine ⟨cs[i], ?_, ?_⟩
      · simp [execOp, hop, hcs, Instr.extract, hi]
      · have := RV_getD hr i
        simpa [List.getD, hi] using this
    · simp at h
  case h_5 t a hop =>
    split at h
    · rename_i ti ht
      obtain ⟨y, h1, h2⟩ := run_loadAt c ht (r a) h hp
      exact ⟨y, by simp [execOp, hop, h1], h2⟩
    · simp at h
  case h_6 s x f hop =>
    split at h
    · rename_i ti ht
      split at h
      · rename_i fs hk
        obtain ⟨j, d, h1, h2, _, _, h5, _⟩ := ty_ok ht
        rw [hk] at h5
        obtain ⟨fields, rfl, rfl⟩ := TK.of_str h5
        split at h
        · rename_i off ft hf
          rw [List.getElem?_map, Option.map_eq_some_iff] at hf
          obtain ⟨fd, hfd, hfd2⟩ := hf
          simp only [Prod.mk.injEq] at hfd2
          obtain ⟨rfl, rfl⟩ := hfd2
          have hfd' : fields[f]? = some fd := by simpa using hfd
          split at h
          · rename_i tf htf
            split at h
            · rename_i v hv
              simp only [Option.some.injEq] at h
              subst h
              obtain ⟨b, o', hx, hr⟩ := addrAdd_sound (r x) hv
              obtain ⟨jf, df, f1, f2, f3, _, _⟩ := ty_ok htf
              refine ⟨_, ?_, hr⟩
              have hnz' : ¬ jf.size = 0 := by rw [← f3]; simpa using hp
              simp [execOp, hop, Instr.fieldAt, run_underlying h2, hfd', hx, Instr.sureAddr, fieldPlace, run_sizeOf f1, hnz', addr_add]
            · simp at h
          · simp at h
        · simp at h
      · simp at h
    · simp at h
  case h_7 t x i hop =>
    split at h
    · rename_i k n hi
      split at h
      · rename_i ti ht
        obtain ⟨y, h1, h2⟩ := run_indexAt ht (r x) (r i) hi h hp
        exact ⟨y, by simp [execOp, hop, h1], h2⟩
      · simp at h
    · simp at h
  case h_8 t x i hop =>
    split at h
    · rename_i k n hi
      split at h
      · rename_i ti ht
        obtain ⟨y, h1, h2⟩ := run_index ht (r x) (r i) hi h hp
        exact ⟨y, by simp [execOp, hop, h1], h2⟩
      · simp at h
    · simp at h
  case h_9 t x f hop =>
    split at h
    · rename_i ti ht
      obtain ⟨y, h1, h2⟩ := run_field ht (r x) h hp
      exact ⟨y, by simp [execOp, hop, h1], h2⟩
    · simp at h
  case h_10 op t x y ty hop =>
    obtain ⟨hpl, z, h1, h2⟩ := run_bin (r x) (r y) h hp
    exact ⟨z, by simp [execOp, hop, hpl x y, h1], h2⟩
  case h_11 op t x hop =>
    split at h
    · rename_i v hv
      simp only [Option.some.injEq] at h
      subst h
      obtain ⟨y, h1, h2⟩ := run_unary (P := P) (r x) hv
      exact ⟨y, by simp [execOp, hop, h1], h2⟩
    · simp at h
  case h_12 s d x hop =>
    split at h
    · rename_i ts hs
      split at h
      · rename_i td hd
        obtain ⟨_, ds, _, s2, _, _, s5, _⟩ := ty_ok hs
        obtain ⟨_, dd, _, d2, _, _, d5, _⟩ := ty_ok hd
        unfold aConvert at h
        split at h
        · rename_i k k' hk1 hk2
          rw [hk2] at d5
          obtain rfl := TK.of_int d5
          split at h
          · rename_i v hv
            simp only [Option.some.injEq] at h
            subst h
            obtain ⟨y, h1, h2⟩ := run_cvt s2 d2 (r x) hv
            exact ⟨y, by simp [execOp, hop, h1], h2⟩
          · simp at h
        · rename_i hk1 hk2
          rw [hk1] at s5
          rw [hk2] at d5
          obtain rfl := TK.of_string s5
          obtain rfl := TK.of_string d5
          split at h
          · rename_i l hv
            simp only [Option.some.injEq] at h
            subst h
            have hx := r x
            rw [hv, rel_str] at hx
            exact ⟨e x, by simp [execOp, hop, convert, run_underlying s2, run_underlying d2, hx], by rw [hx]; exact rel_str.2 rfl⟩
          · simp at h
        · rename_i te0 hk1 hk2
          rw [hk1] at s5
          rw [hk2] at d5
          obtain rfl := TK.of_slice s5
          obtain rfl := TK.of_string d5
          split at h
          · rename_i te hte
            split at h
            · rename_i hk
              obtain ⟨_, de, _, e2, _, _, e5, _⟩ := ty_ok hte
              rw [hk] at e5
              obtain rfl := TK.of_int e5
              split at h
              · rename_i q l hv
                simp only [Option.some.injEq] at h
                subst h
                obtain ⟨x', cap, h1, h2⟩ := content8_sound c hv hp (r x)
                refine ⟨_, ?_, rel_str.2 rfl⟩
                simp only [execOp, hop]
                rw [h1]
                simp only [Sem.run_bind, run_convert_bytes_string w s d _ _ _ _ s2 e2 d2, run_toString rfl h2, Result.andThen_ok]
                rfl
              · simp at h
            · simp at h
          · simp at h
        · simp at h
      · simp at h
    · simp at h
  case h_13 fn first caps hop =>
    simp only [Option.some.injEq] at h
    subst h
    refine ⟨.func fn (first.map e) (caps.map e), by simp [execOp, hop, Instr.makeFunc], rel_fn.2 ⟨_, _, rfl, ?_, ?_⟩⟩
    · simp only [Array.toList_map]; exact RV_mapev r _
    · simp only [Array.toList_map]; exact RV_mapev r _
  case h_14 x hop =>
    have hx := r x
    split at h
    · rename_i id off hv
      simp only [Option.some.injEq] at h
      subst h
      rw [hv] at hx
      obtain ⟨b, hb, hex⟩ := rel_ptr.1 hx
      exact ⟨e x, by simp [execOp, hop, hex], hx⟩
    · rename_i cs i hv
      simp only [Option.some.injEq] at h
      subst h
      rw [hv] at hx
      obtain ⟨vs, _, b, off, hex, _⟩ := rel_vp.1 hx
      exact ⟨e x, by simp [execOp, hop, hex], hx⟩
    · rename_i f a b hv
      simp only [Option.some.injEq] at h
      subst h
      rw [hv] at hx
      obtain ⟨x', y', hex, _⟩ := rel_fn.1 hx
      exact ⟨e x, by simp [execOp, hop, hex], hx⟩
    · simp at h
  case h_15 cl hop =>
    split at h
    · rename_i fo hfo
      split at h
      · rename_i f hf
        have hr := r fo
        rw [hf] at hr
        obtain ⟨x, y, hx, h1, h2⟩ := rel_fn.1 hr
        rw [RV_nil] at h1 h2
        have hx1 : x = #[] := by simpa using h1
        have hy1 : y = #[] := by simpa using h2
        subst hx1 hy1
        obtain ⟨z, k1, k2⟩ := run_aext (RV_mapev r cl.args.toList) h hp
        refine ⟨z, ?_, k2⟩
        rw [run_call_value hop hfo hx]
        rw [mapArr] at k1
        simpa using k1
      · simp at h
    · rename_i hfo
      split at h
      · rename_i x t hx ht
        split at h
        · rename_i ti hti
          split at h
          · rename_i v hv
            simp only [Option.some.injEq] at h
            subst h
            have hl := RV_mapev r cl.args.toList
            rw [hx] at hl
            obtain ⟨vx, _, hvx, hr, hnil⟩ := RV_cons.1 hl
            rw [RV_nil] at hnil
            subst hnil
            obtain ⟨y, k1, k2⟩ := run_alen (P := P) (w := w) hti hr hv ht o.type
            have hargs : cl.args.map e = #[vx] := by
              apply Array.toList_inj.1
              simpa using hvx
            exact ⟨y, by rw [run_call_builtin hop hfo, hargs]; simp [builtin, k1], k2⟩
          · simp at h
        · simp at h
      · simp at h
    · rename_i hfo
      split at h
      · rename_i v hv
        simp only [Option.some.injEq] at h
        subst h
        obtain ⟨y, k1, k2⟩ := run_aminmax (P := P) (RV_mapev r cl.args.toList) hv cl.argTypes o.type
        refine ⟨y, ?_, k2⟩
        rw [run_call_builtin hop hfo]
        simp only [Bool.false_eq_true, if_false, mapArr] at k1
        simp [builtin, k1]
      · simp at h
    · rename_i hfo
      split at h
      · rename_i v hv
        simp only [Option.some.injEq] at h
        subst h
        obtain ⟨y, k1, k2⟩ := run_aminmax (P := P) (RV_mapev r cl.args.toList) hv cl.argTypes o.type
        refine ⟨y, ?_, k2⟩
        rw [run_call_builtin hop hfo]
        simp only [if_true, mapArr] at k1
        simp [builtin, k1]
      · simp at h
    · simp at h
  case h_16 t parts hop =>
    obtain ⟨cells, h1, h2⟩ := abuild_sound (r := fun x => r x) h hp
    exact ⟨_, by simp only [execOp, hop, Sem.run_bind, run_build w t _ cells h1, Result.andThen_ok]; rfl, h2⟩
  case h_17 => simp at h
end
end
end Go.V

/- The abstract layer (second state), part J: steps of operations, code, calls. -/
set_option linter.unusedSimpArgs false
set_option linter.unusedVariables false
namespace Go.V
open Go
noncomputable section

def one (S : Nat) : Nat → Bool := fun i => i == S
/-- Temporaries behind an operation that makes references to an entry void. -/
def killO (kl : Option Nat) (t : List AV) : List AV := match kl with
  | none => t
  | some n => killL (one n) t
def MonoO (kl : Option Nat) (ρ : Rho) (I : Imm) (w : World) (ρ' : Rho) (I' : Imm) (w' : World) : Prop := match kl with
  | none => Mono ρ I w ρ' I' w'
  | some n => MonoBut (one n) ρ I w ρ' I' w'

def putA (t : List AV) (d : Option Tmp) (v : AV) : List AV :=
  match d with
  | none => t
  | some d => t.set d v

section
variable {P : Program} (G : Env P)

/-- What an operation comes to, said of the model. -/
def Fin (ρ : Rho) (I : Imm) (H : Heap) (w : World) (x : Value) (w' : World) (K : Option Nat → AV → Heap → Prop) : Prop :=
  ∃ (ρ' : Rho) (I' : Imm) (kl : Option Nat) (v : AV) (H' : Heap), Good ρ I H w ρ' I' H' w' ∧ Conc G.g ρ' I' H' w' ∧ rel ρ' I' w' v x ∧ MonoO kl ρ I w ρ' I' w' ∧ K kl v H'

def Post (ρ : Rho) (I : Imm) (H : Heap) (w : World) (K : Option Nat → AV → Heap → Prop) : Result Next → Prop
  | .ok (.value x) w' => Fin G ρ I H w x w' K
  | .ok .skip w' => Fin G ρ I H w undef w' K
  | _ => False

/-- A call: it returns, and what it comes to: a value, a memory, in which blocks that grow may be other ones. -/
def ACall (f : FuncId) (args : List AV) (H : Heap) (R : AV → Heap → Prop) : Prop :=
  ∀ (ρ : Rho) (I : Imm) (w : World) (vs : List Value), Conc G.g ρ I H w → RV ρ I w args vs →
    Calls P f vs.toArray w fun e w' => ∃ x, e = .returned x ∧ ∃ (ρ' : Rho) (I' : Imm) (v : AV) (H' : Heap), Good ρ I H w ρ' I' H' w' ∧ Conc G.g ρ' I' H' w' ∧ rel ρ' I' w' v x ∧ R v H'

/-- A call out of a frame. -/
def callS (f : FuncId) (args : List AV) (s : St) (d : Option Tmp) (K : St → Prop) : Prop :=
  ∀ (ρ : Rho) (I : Imm) (w : World) (a : Act) (vs : List Value), Conc G.g ρ I s.H w → RelT ρ I w s.t a → RV ρ I w args vs →
    Calls P f vs.toArray w fun e w' => ∃ x, e = .returned x ∧ ∃ (ρ' : Rho) (I' : Imm) (s' : St), Good ρ I s.H w ρ' I' s'.H w' ∧ Conc G.g ρ' I' s'.H w' ∧ RelT ρ' I' w' s'.t (a.put d x) ∧ K s'

def step1 (o : Oper) (s : St) (K : St → Prop) : Prop :=
  match aval0 G o.op (evA G s.t) s.H with
  | some (c, v) => cnd c (K ⟨putA s.t o.dst v, s.H⟩)
  | none =>
    match aeff G o.op (evA G s.t) s.H with
    | some (c, v, H', kl) => cnd c (K ⟨putA (killO kl s.t) o.dst v, H'⟩)
    | none =>
      match acall o.op (evA G s.t) with
      | some (f, args) => cnd (G.go f) (callS G f args s o.dst K)
      | none => False

def gstep (ops : Array Oper) (o : Oper) (s : St) (K : St → Prop) : Prop :=
  match o.guard with
  | none => step1 G o s K
  | some (j, want) =>
    match (ops[j]?).bind (·.dst) with
    | none => K ⟨putA s.t o.dst (.tup []), s.H⟩
    | some d =>
      match s.t.getD d .any with
      | .bool b => ifW b want (step1 G o s K) (K ⟨putA s.t o.dst (.tup []), s.H⟩)
      | .tup _ => K ⟨putA s.t o.dst (.tup []), s.H⟩
      | _ => False

def aops (ops : Array Oper) : List Oper → St → (St → Prop) → Prop
  | [], s, K => K s
  | o :: rest, s, K => gstep G ops o s fun s' => aops ops rest s' K

/-- From an abstract state on, a predicate holds of whatever the model comes to. -/
def Leads (ρ : Rho) (I : Imm) (H : Heap) (w : World) (K : St → Prop) (next : Act → World → Prop) : Prop :=
  ∀ (ρ' : Rho) (I' : Imm) (s' : St) (a' : Act) (w' : World), Good ρ I H w ρ' I' s'.H w' → Conc G.g ρ' I' s'.H w' → RelT ρ' I' w' s'.t a' → K s' → next a' w'

/-- What a piece of code does to abstract states. -/
def Tri (c : Code) (Q : Exit → St → Prop) (s : St) : Prop :=
  ∀ (ρ : Rho) (I : Imm) (a : Act) (w : World), Conc G.g ρ I s.H w → RelT ρ I w s.t a →
    c.wp P (fun e a' w' => ∃ (ρ' : Rho) (I' : Imm) (s' : St), Good ρ I s.H w ρ' I' s'.H w' ∧ Conc G.g ρ' I' s'.H w' ∧ RelT ρ' I' w' s'.t a' ∧ Q e s') a w

def thenA (k : St → Prop) (Q : Exit → St → Prop) : Exit → St → Prop
  | .normal, s => k s
  | e, s => Q e s

def blockA (id : Nat) (Q : Exit → St → Prop) : Exit → St → Prop
  | .exit i, s => bif i == id then Q .normal s else Q (.exit i) s
  | e, s => Q e s
end

section
variable {P : Program} {G : Env P} {ρ : Rho} {I : Imm} {H : Heap} {w : World}

theorem rel_undef {ρ : Rho} {I : Imm} {w : World} : rel ρ I w (.tup []) undef := rel_tup.2 ⟨#[], rfl, by simp [RV]⟩

theorem RelT.put {t : List AV} {a : Act} (h : RelT ρ I w t a) (d : Option Tmp) {v : AV} {x : Value} (r : rel ρ I w v x) : RelT ρ I w (putA t d v) (a.put d x) := by
  cases d with
  | none => exact h
  | some d => exact ⟨by simpa [Act.put, putA] using RV_set h.tr d r, h.defers⟩

theorem RelT.kill {kl : Option Nat} {ρ' : Rho} {I' : Imm} {w' : World} (m : MonoO kl ρ I w ρ' I' w') {t : List AV} {a : Act} (h : RelT ρ I w t a) : RelT ρ' I' w' (killO kl t) a := by
  cases kl with
  | none => exact h.mono m
  | some n => exact ⟨RV_kill m _ _ h.tr, h.defers⟩

theorem Leads.on {K : St → Prop} {next : Act → World → Prop} (h : Leads G ρ I H w K next) {ρ1 : Rho} {I1 : Imm} {H1 : Heap} {w1 : World}
    (g : Good ρ I H w ρ1 I1 H1 w1) : Leads G ρ1 I1 H1 w1 K next :=
  fun ρ' I' s' a' w' g' c r k => h ρ' I' s' a' w' (g.trans g') c r k

theorem Fin.here {x : Value} {K : Option Nat → AV → Heap → Prop} (c : Conc G.g ρ I H w) {v : AV} (r : rel ρ I w v x) (k : K none v H) : Fin G ρ I H w x w K :=
  ⟨ρ, I, none, v, H, Good.refl _ _ _ _, c, r, ⟨fun _ _ h => h, fun _ _ h => ⟨h, rfl⟩, fun _ h => ⟨h, rfl⟩⟩, k⟩

theorem upon_of_post {s : St} {o : Oper} {a : Act} {K : St → Prop} {next : Act → World → Prop} {Q : Exit → Act → World → Prop}
    (r : RelT ρ I w s.t a) (hn : Leads G ρ I s.H w K next) : ∀ {res : Result Next},
    Post G ρ I s.H w (fun kl v H' => K ⟨putA (killO kl s.t) o.dst v, H'⟩) res → o.upon P a next Q res := by
  intro res h
  have fin : ∀ (x : Value) (w' : World), Fin G ρ I s.H w x w' (fun kl v H' => K ⟨putA (killO kl s.t) o.dst v, H'⟩) → next (a.put o.dst x) w' := by
    intro x w' ⟨ρ', I', kl, v, H', hg, hc, hr, hm, hk⟩
    exact hn ρ' I' ⟨putA (killO kl s.t) o.dst v, H'⟩ _ w' hg hc ((r.kill hm).put _ hr) hk
  match res, h with
  | .ok (.value x) w', h => exact fin x w' h
  | .ok .skip w', h => exact fin undef w' h

theorem box_fin (c : Conc G.g ρ I H w) {z : AV} {v : Value} (hz : known z = true) (hr : rel ρ I w z v) (t : TypeId) {K : Option Nat → AV → Heap → Prop} (hk : K none (.ptr H.length 0) (H ++ [.blk z.cells []])) :
    Fin G ρ I H w (.pointer (some ⟨w.heap.size, 0, none⟩)) (w.alloc (.cells v.cells t)) K := by
  have hcells := R_cells (known_cells hr hz)
  have hnew := alloc_new w (.cells v.cells t)
  have hx : ∀ b, some w.heap.size = some b → w.heap.size ≤ b ∧ b < (w.alloc (.cells v.cells t)).heap.size := fun b h => by simp at h; subst h; simp
  obtain ⟨hc, hm⟩ := push_conc c (.blk z.cells []) (some w.heap.size) (w' := w.alloc (.cells v.cells t)) hx (by simp) (fun b h => alloc_old w _ h) rfl
    (fun cs f h => by
      simp only [Ent.blk.injEq] at h
      obtain ⟨rfl, rfl⟩ := h
      exact ⟨w.heap.size, t, (0, 0), v.cells.toList, rfl, by simpa using hnew, hcells, Nat.le_refl _, fun o _ => by simp⟩)
    (fun h => by simp [Ent.grows] at h) rfl rfl rfl
  exact ⟨_, _, none, _, _, push_good c (.blk z.cells []) (some w.heap.size) (fun b h => (hx b h).1) (by simp) (fun b h => alloc_old w _ h) rfl rfl rfl, hc, rel_ptr.2 ⟨w.heap.size, by simp [bindR], rfl⟩, hm, hk⟩

/-- An entry's cells written anew. -/
theorem upd_fin (c : Conc G.g ρ I H w) {id b : Nat} {e e' : Ent} {el : TypeId} {fr : Nat × Nat} {us us' rest : List Value} {cs' : List AV} (hid : H[id]? = some e) (hb : ρ id = some (some b))
    (hw : w.heap[b]? = some (.cells (us ++ rest).toArray el fr)) (hcl : clear fr (us ++ rest).length) (hblk : (∃ cs f, e = .blk cs f) → rest = []) (hr : RL ρ I w cs' us') (hlen : us'.length = us.length)
    (hfz : ∀ o, inFrz e.frz o → us'[o]? = us[o]?) (hu : updEnt e cs' = some e') :
    Good ρ I H w ρ I (H.set id e') (rewr w b (.cells (us' ++ rest).toArray el fr)) ∧ Conc G.g ρ I (H.set id e') (rewr w b (.cells (us' ++ rest).toArray el fr)) ∧ Mono ρ I w ρ I (rewr w b (.cells (us' ++ rest).toArray el fr)) := by
  have hlen' : (us' ++ rest).length = (us ++ rest).length := by simp [hlen]
  have hfz' : ∀ o, inFrz e.frz o → (us' ++ rest)[o]? = (us ++ rest)[o]? := by
    intro o ho
    rcases Nat.lt_or_ge o us.length with h | h
    · rw [List.getElem?_append_left (by omega), List.getElem?_append_left h]; exact hfz o ho
    · rw [List.getElem?_append_right (by omega), List.getElem?_append_right h, hlen]
  unfold updEnt at hu
  split at hu
  · rename_i cs0 f0
    simp only [Option.some.injEq] at hu
    subst hu
    have hrest := hblk ⟨_, _, rfl⟩
    obtain ⟨k1, k2⟩ := write_conc c hid rfl hb hw hlen' hfz' (e' := .blk cs' f0) rfl (fun h => by simp [Ent.grows] at h) rfl hcl
      (fun cs f h => by simp only [Ent.blk.injEq] at h; obtain ⟨rfl, rfl⟩ := h; subst hrest; simpa using hr) (fun h => by simp [Ent.grows] at h)
    exact ⟨write_good (I := I) hid rfl hb hw hlen' hfz' (e' := .blk cs' f0) rfl (fun h => by simp [Ent.grows] at h), k1, k2⟩
  · rename_i l0 f0
    split at hu
    · rename_i m l'
      simp only [Option.some.injEq] at hu
      subst hu
      have hr' : RL ρ I w [.b8 l'.length l'] us' := by
        obtain ⟨ys, zs, e0, ⟨e1, e2⟩, e3⟩ := RL_head hr
        exact RL_cons.2 ⟨ys, zs, e0, ⟨e1, rfl⟩, e3⟩
      obtain ⟨k1, k2⟩ := write_conc c hid rfl hb hw hlen' hfz' (e' := .grow8 l' f0) rfl (fun _ => rfl) rfl hcl
        (fun cs f h => by simp at h) (fun _ => ⟨trivial, us', rest, rfl, hr'⟩)
      exact ⟨write_good (I := I) hid rfl hb hw hlen' hfz' (e' := .grow8 l' f0) rfl (fun _ => rfl), k1, k2⟩
    · simp at hu
  · rename_i k0 rows0 f0
    cases hb2 : (cs'.all fun a => szA a == k0) with
    | false => rw [hb2] at hu; simp at hu
    | true =>
      rw [hb2] at hu
      simp only [cond_true, Option.some.injEq] at hu
      subst hu
      have hev : ∀ a ∈ cs', szA a = k0 := fun a ha => by
        rw [List.all_eq_true] at hb2
        simpa using hb2 a ha
      obtain ⟨k1, k2⟩ := write_conc c hid rfl hb hw hlen' hfz' (e' := .grow k0 cs' f0) rfl (fun _ => rfl) rfl hcl
        (fun cs f h => by simp at h) (fun _ => ⟨hev, us', rest, rfl, hr⟩)
      exact ⟨write_good (I := I) hid rfl hb hw hlen' hfz' (e' := .grow k0 cs' f0) rfl (fun _ => rfl), k1, k2⟩
  · simp at hu

theorem updEnt_cells {e e' : Ent} {cs : List AV} (h : updEnt e cs = some e') : (∃ c f, e = .blk c f) ∨ e.grows = true := by
  unfold updEnt at h
  split at h
  · exact .inl ⟨_, _, rfl⟩
  · exact .inr rfl
  · exact .inr rfl
  · simp at h

theorem ent_of (c : Conc G.g ρ I H w) {id b : Nat} {e : Ent} (hid : H[id]? = some e) (hb : ρ id = some (some b)) (hk : (∃ c f, e = .blk c f) ∨ e.grows = true) :
    ∃ el fr us rest, w.heap[b]? = some (.cells (us ++ rest).toArray el fr) ∧ clear fr (us ++ rest).length ∧ ((∃ cs f, e = .blk cs f) → rest = []) ∧ RL ρ I w e.cells us := by
  rcases hk with ⟨cs, f, rfl⟩ | hk
  · obtain ⟨b', el, fr, us, g1, g2, g3, g4⟩ := c.blk id _ f hid
    obtain rfl : b = b' := by rw [hb] at g1; simpa using g1
    exact ⟨el, fr, us, [], by simpa using g2, by simpa using g4, fun _ => rfl, g3⟩
  · obtain ⟨_, g1 | ⟨b', el, fr, us, rest, g1, g2, g3, g4⟩⟩ := c.grow id e hid hk
    · rw [hb] at g1; simp at g1
    · obtain rfl : b = b' := by rw [hb] at g1; simpa using g1
      exact ⟨el, fr, us, rest, g2, g4, fun ⟨cs, f, h⟩ => by rw [h] at hk; simp [Ent.grows] at hk, g3⟩

theorem store_sound (c : Conc G.g ρ I H w) {ev : Operand → AV} {e : Operand → Value} (r : ∀ x, rel ρ I w (ev x) (e x)) {o : Oper} {t : Nat} {a x : Operand} (hop : o.op = .store t a x) {p : Bool} {id : Nat} {e' : Ent}
    (h : astore G (.store t a x) ev H = some (p, id, e')) (hp : p = true) : ∃ w', (execOp e o).run P w = .ok .skip w' ∧ Good ρ I H w ρ I (H.set id e') w' ∧ Conc G.g ρ I (H.set id e') w' ∧ Mono ρ I w ρ I w' := by
  have fin : ∀ {ti : TI} {b off : Nat} {e0 : Ent} {el : TypeId} {fr : Nat × Nat} {us rest : List Value}, G.ty t = some ti → e a = .pointer (some ⟨b, off, none⟩) → w.heap[b]? = some (.cells (us ++ rest).toArray el fr) → clear fr (us ++ rest).length →
      (e x).cells.size = ti.size → (∀ y ∈ (e x).cells.toList, y.oneCell' = true) → off + ti.size ≤ us.length →
      (execOp e o).run P w = .ok .skip (rewr w b (.cells (spliceV us off (e x).cells.toList ++ rest).toArray el fr)) := by
    intro ti b off e0 el fr us rest ht hea hw hcl hsz h1 hle
    have hrun := run_storeVar (off := off) ht hsz h1 hw (by simp; omega) hcl
    have hL : (e x).cells.toList.length = ti.size := by simpa using hsz
    rw [spliceV_left (by rw [hL]; exact hle)] at hrun
    simp [execOp, hop, Instr.storeAt, hea, Instr.sureAddr, hrun]
  unfold astore at h
  simp only at h
  split at h
  · rename_i ti ht
    split at h
    · rename_i id' off ha
      have hra := r a
      rw [ha] at hra
      obtain ⟨b, hb, hea⟩ := rel_ptr.1 hra
      split at h
      · rename_i e0 hid
        split at h
        · rename_i e1 hu
          simp only [Option.some.injEq, Prod.mk.injEq] at h
          obtain ⟨rfl, rfl, rfl⟩ := h
          simp only [Bool.and_eq_true, beq_iff_eq, bne_iff_ne, ne_eq] at hp
          obtain ⟨⟨⟨⟨c1, c2⟩, c3, c4⟩, c5⟩, c6⟩ := hp
          have c5 := leB_iff.1 c5
          have c6 := frzFree_iff c6
          obtain ⟨el, fr, us, rest, hw, hcl, hblk, hr⟩ := ent_of c hid hb (updEnt_cells hu)
          have hcells := known_cells (r x) c1
          have hlx := R_len _ _ hcells
          have hlu := RL_len _ _ hr
          have hsz : (e x).cells.size = ti.size := by simp at hlx; omega
          have hL : (e x).cells.toList.length = ti.size := by simpa using hsz
          have hres := RL_set e0.cells us off (ev x) _ hr hcells (by omega) (by omega)
          have hrun := fin (e0 := e0) ht hea hw hcl hsz (oneA_sound _ _ hcells c2) (by omega)
          exact ⟨_, hrun, upd_fin c hid hb hw hcl hblk hres (length_spliceV (by rw [hL]; omega)) (fun q ⟨pr, hpr, h1, h2⟩ => spliceV_get_out (by rw [hL]; omega) (by rw [hL]; have := c6 pr hpr; omega)) hu⟩
        · simp at h
      · simp at h
    · rename_i id' off n i ha
      have hra := r a
      rw [ha] at hra
      obtain ⟨b, hb, hi, hea⟩ := rel_pix.1 hra
      split at h
      · rename_i e0 hid
        split at h
        · rename_i cs' hset
          split at h
          · rename_i e1 hu
            simp only [Option.some.injEq, Prod.mk.injEq] at h
            obtain ⟨rfl, rfl, rfl⟩ := h
            simp only [Bool.and_eq_true, beq_iff_eq, Bool.not_eq_true'] at hp
            obtain ⟨⟨⟨⟨c1, c2⟩, c3, c4⟩, c5, c7⟩, c6⟩ := hp
            have c5 := leB_iff.1 c5
            have c6 := frzFree_iff c6
            obtain ⟨el, fr, us, rest, hw, hcl, hblk, hr⟩ := ent_of c hid hb (updEnt_cells hu)
            have hlu := RL_len _ _ hr
            obtain ⟨k1, k2⟩ := setX1_sound hr hi c5 c3 c7 (r x) hset
            have hcells := known_cells (r x) c1
            obtain ⟨y, hy, _⟩ := R_one c7 hcells
            have hsz : (e x).cells.size = ti.size := by have := congrArg List.length hy; simp at this; omega
            have hyx : y = e x := by
              cases hv : e x <;> rw [hv] at hy hcells <;> simp [Value.cells] at hy <;> first | exact hy.symm | skip
              exfalso
              rename_i cs
              have hrx := r x
              rw [hv] at hrx
              have := rel_one c7 hrx
              have h3 := oneA_sound _ _ this c2 (.agg cs) (by simp)
              simp [Value.oneCell'] at h3
            subst hyx
            have hrun := fin (e0 := e0) ht hea hw hcl hsz (oneA_sound _ _ hcells c2) (by omega)
            rw [hy, spliceV_one _ (by omega)] at hrun
            refine ⟨_, hrun, upd_fin c hid hb hw hcl hblk k1 (by simp) (fun q ⟨pr, hpr, h1, h2⟩ => ?_) hu⟩
            rw [List.getElem?_set_ne]
            have := c6 pr hpr
            omega
          · simp at h
        · simp at h
      · simp at h
    · simp at h
  · simp at h

theorem aeff_sound (c : Conc G.g ρ I H w) {ev : Operand → AV} {e : Operand → Value} (r : ∀ x, rel ρ I w (ev x) (e x)) {o : Oper} {p : Bool} {v : AV} {H' : Heap} {kl : Option Nat} (h : aeff G o.op ev H = some (p, v, H', kl)) (hp : p = true)
    {K : Option Nat → AV → Heap → Prop} (hk : K kl v H') : Post G ρ I H w K ((execOp e o).run P w) := by
  unfold aeff at h
  split at h
  · rename_i t hop
    split at h
    · rename_i ti ht
      split at h
      · rename_i z hz
        simp only [Option.some.injEq, Prod.mk.injEq] at h
        obtain ⟨rfl, rfl, rfl, rfl⟩ := h
        obtain ⟨j, d, h1, h2, h3, _, h5, h6, _⟩ := ty_ok ht
        obtain ⟨zv, hzv, hck⟩ := h6 z hz
        have hrun : (execOp e o).run P w = .ok (.value (.pointer (some ⟨w.heap.size, 0, none⟩))) (w.alloc (.cells zv.cells t)) := by
          simp [execOp, hop, Instr.alloc, zeroValue, run_typeInfo h1, hzv, newVar, newRow]
        rw [hrun]
        exact box_fin c hp (chkV_sound hck ρ I w) t hk
      · simp at h
    · simp at h
  · rename_i t x hop
    simp only [Option.some.injEq, Prod.mk.injEq] at h
    obtain ⟨rfl, rfl, rfl, rfl⟩ := h
    have hrun : (execOp e o).run P w = .ok (.value (.pointer (some ⟨w.heap.size, 0, none⟩))) (w.alloc (.cells (e x).cells t)) := by
      simp [execOp, hop, Instr.box, newVar, newRow]
    rw [hrun]
    exact box_fin c hp (r x) t hk
  · rename_i t a x hop
    split at h
    · rename_i q id e1 hs
      simp only [Option.some.injEq, Prod.mk.injEq] at h
      obtain ⟨rfl, rfl, rfl, rfl⟩ := h
      obtain ⟨w', hrun, h1, h2, h3⟩ := store_sound c r hop hs hp
      rw [hrun]
      exact ⟨ρ, I, none, _, _, h1, h2, rel_undef, h3, hk⟩
    · simp at h
  · simp at h

theorem goFn_run {f : FuncId} (h : GoFn P f) (args : Array Value) : (callFunc f args).run P w = .ok (.enter f args) w := by
  unfold GoFn at h
  split at h
  · rename_i fn hfn
    obtain ⟨n1, n2⟩ := h
    have n1' : fn.name ≠ "runtime.NumGoroutine" := by simpa using n1
    obtain ⟨bd, hb⟩ := Option.isSome_iff_exists.1 n2
    simp [callFunc, hfn, n1', hb]
  · exact h.elim

theorem acall_run {ev : Operand → AV} {e : Operand → Value} (r : ∀ x, rel ρ I w (ev x) (e x)) {o : Oper} {f : FuncId} {args : List AV} (h : acall o.op ev = some (f, args)) (hf : GoFn P f) :
    ∃ vs : Array Value, (execOp e o).run P w = .ok (.enter f vs) w ∧ RV ρ I w args vs.toList := by
  unfold acall at h
  split at h
  · rename_i cl hop
    split at h
    · rename_i fo hfo
      split at h
      · rename_i g first caps hg
        simp only [Option.some.injEq, Prod.mk.injEq] at h
        obtain ⟨rfl, rfl⟩ := h
        have hr := r fo
        rw [hg] at hr
        obtain ⟨x, y, hx, h1, h2⟩ := rel_fn.1 hr
        refine ⟨x ++ cl.args.map e ++ y, by rw [run_call_value hop hfo hx, goFn_run hf], ?_⟩
        simp only [Array.toList_append, Array.toList_map, List.append_assoc]
        exact RV_append h1 (RV_append (RV_mapev r _) h2)
      · simp at h
    · simp at h
  · simp at h

theorem step1_sound (c : Conc G.g ρ I H w) {t : List AV} {a : Act} (r : RelT ρ I w t a) {o : Oper} {K : St → Prop} (h : step1 G o ⟨t, H⟩ K) {next : Act → World → Prop} {Q : Exit → Act → World → Prop}
    (hn : Leads G ρ I H w K next) : o.wp P a w next Q := by
  have re := rel_evA c r
  unfold step1 at h
  unfold Oper.wp
  split at h
  · rename_i b v hv
    obtain ⟨hc, hk⟩ := cnd_iff.1 h
    obtain ⟨x, h1, h2⟩ := aval0_sound c re hv hc
    rw [h1]
    exact upon_of_post (s := ⟨t, H⟩) (o := o) r hn (res := .ok (.value x) w) (Fin.here c h2 hk)
  · split at h
    · rename_i b v H' kl hv
      obtain ⟨hc, hk⟩ := cnd_iff.1 h
      exact upon_of_post (s := ⟨t, H⟩) (o := o) r hn (aeff_sound c re hv hc hk)
    · split at h
      · rename_i f args hcall
        obtain ⟨hg, hcs⟩ := cnd_iff.1 h
        obtain ⟨vs, h1, h2⟩ := acall_run re hcall (G.goOk f hg)
        rw [h1]
        have := hcs ρ I w a vs.toList c r h2
        rw [Array.toArray_toList] at this
        refine Calls.mono this ?_
        rintro e w' ⟨x, rfl, ρ', I', s', g1, g2, g3, g4⟩
        exact hn ρ' I' s' _ w' g1 g2 g3 g4
      · exact h.elim

theorem yielded_of {ops : Array Oper} {j d : Nat} {t : List AV} {a : Act} (r : RelT ρ I w t a) (hd : (ops[j]?).bind (·.dst) = some d) {b : Bool} (h : t.getD d .any = .bool b) :
    yielded ops a.tmps j = some b := by
  have := RV_getD r.tr d
  rw [h, rel_bool] at this
  have hx : a.tmps.toList.getD d undef = .bool b := this
  unfold yielded
  rw [hd]
  simp only [Option.bind_some]
  rw [List.getD_eq_getElem?_getD] at hx
  cases hq : a.tmps[d]? with
  | none => simp [hq, undef] at hx
  | some v => simp [hq] at hx; simp [hx]

theorem yielded_tup {ops : Array Oper} {j d : Nat} {t : List AV} {a : Act} (r : RelT ρ I w t a) (hd : (ops[j]?).bind (·.dst) = some d) {l : List AV} (h : t.getD d .any = .tup l) :
    yielded ops a.tmps j = none := by
  have := RV_getD r.tr d
  rw [h] at this
  obtain ⟨cs, hx, _⟩ := rel_tup.1 this
  unfold yielded
  rw [hd]
  simp only [Option.bind_some]
  rw [List.getD_eq_getElem?_getD] at hx
  cases hq : a.tmps[d]? with
  | none => rfl
  | some v => simp [hq] at hx; simp [hx]

theorem gstep_sound (c : Conc G.g ρ I H w) {t : List AV} {a : Act} (r : RelT ρ I w t a) {ops : Array Oper} {o : Oper} {K : St → Prop} (h : gstep G ops o ⟨t, H⟩ K) {next : Act → World → Prop}
    {Q : Exit → Act → World → Prop} (hn : Leads G ρ I H w K next) :
    if Region.wanted o (yielded ops a.tmps) then o.wp P a w next Q else next (a.put o.dst undef) w := by
  have skip : K ⟨putA t o.dst (.tup []), H⟩ → next (a.put o.dst undef) w := fun hk =>
    hn ρ I ⟨putA t o.dst (.tup []), H⟩ _ w (Good.refl _ _ _ _) c (r.put _ rel_undef) hk
  unfold gstep at h
  unfold Region.wanted
  split at h
  · rename_i hg
    rw [hg]
    exact step1_sound c r h hn
  · rename_i j want hg
    rw [hg]
    split at h
    · rename_i hd
      have : yielded ops a.tmps j = none := by unfold yielded; rw [hd]; rfl
      simp only [this]
      simpa using skip h
    · rename_i d hd
      split at h
      · rename_i b hb
        have hy := yielded_of r hd hb
        have h := ifW_iff.1 h
        simp only [hy]
        by_cases e : b = want
        · subst e
          simp only [beq_self_eq_true, if_true]
          exact step1_sound c r (h.1 rfl) hn
        · have e' : b = !want := by cases b <;> cases want <;> simp_all
          have : (some b == some want) = false := by simp [e]
          simp only [this, Bool.false_eq_true, if_false]
          exact skip (h.2 e')
      · rename_i l hl
        have hy := yielded_tup r hd hl
        simp only [hy]
        simpa using skip h
      · exact h.elim

theorem aops_sound {ops : Array Oper} {Q : Exit → Act → World → Prop} : ∀ (l : List Oper) {ρ : Rho} {I : Imm} {H : Heap} {w : World} {t : List AV} {a : Act} {K : St → Prop},
    Conc G.g ρ I H w → RelT ρ I w t a → aops G ops l ⟨t, H⟩ K → Leads G ρ I H w K (Q .normal) → wpList P ops Q l a w
  | [], ρ, I, H, w, t, a, K, c, r, h, hn => hn ρ I ⟨t, H⟩ a w (Good.refl _ _ _ _) c r h
  | o :: rest, ρ, I, H, w, t, a, K, c, r, h, hn => by
    have := gstep_sound (Q := Q) c r (K := fun s' => aops G ops rest s' K) h (next := wpList P ops Q rest)
      (fun ρ' I' s' a' w' g c' r' k => aops_sound rest c' r' k (hn.on g))
    unfold wpList
    split
    · rename_i hw
      rw [if_pos hw] at this
      exact .inl this
    · rename_i hw
      rw [if_neg hw] at this
      exact this

theorem Tri.mono {c : Code} {Q Q' : Exit → St → Prop} {s : St} (h : Tri G c Q s) (hq : ∀ e s, Q e s → Q' e s) : Tri G c Q' s :=
  fun ρ I a w hc hr => wp_mono (h ρ I a w hc hr) fun _ _ _ ⟨ρ', I', s', h1, h2, h3, h4⟩ => ⟨ρ', I', s', h1, h2, h3, hq _ _ h4⟩
theorem Tri.skip {Q : Exit → St → Prop} {s : St} (h : Q .normal s) : Tri G .skip Q s :=
  fun ρ I a w hc hr => wp_skip ⟨ρ, I, s, Good.refl _ _ _ _, hc, hr, h⟩
theorem Tri.label {Q : Exit → St → Prop} {s : St} {l : Nat} (h : Q .normal s) : Tri G (.label l) Q s :=
  fun ρ I a w hc hr => wp_label ⟨ρ, I, s, Good.refl _ _ _ _, hc, hr, h⟩
theorem Tri.exit {Q : Exit → St → Prop} {s : St} {id : Nat} (h : Q (.exit id) s) : Tri G (.exit id) Q s :=
  fun ρ I a w hc hr => wp_exit ⟨ρ, I, s, Good.refl _ _ _ _, hc, hr, h⟩
theorem Tri.goto {Q : Exit → St → Prop} {s : St} {l : Nat} (h : Q (.goto l) s) : Tri G (.goto l) Q s :=
  fun ρ I a w hc hr => wp_goto ⟨ρ, I, s, Good.refl _ _ _ _, hc, hr, h⟩
theorem Tri.ret {Q : Exit → St → Prop} {s : St} (h : Q .ret s) : Tri G .ret Q s :=
  fun ρ I a w hc hr => wp_ret ⟨ρ, I, s, Good.refl _ _ _ _, hc, hr, h⟩

theorem Tri.seq {x y : Code} {Q : Exit → St → Prop} {s : St} (h : Tri G x (thenA (Tri G y Q) Q) s) : Tri G (.seq x y) Q s := by
  intro ρ I a w hc hr
  refine wp_seq (wp_mono (h ρ I a w hc hr) ?_)
  rintro e a' w' ⟨ρ', I', s', h1, h2, h3, h4⟩
  cases e with
  | normal =>
    refine wp_mono (h4 ρ' I' a' w' h2 h3) ?_
    rintro e a'' w'' ⟨ρ'', I'', s'', k1, k2, k3, k4⟩
    exact ⟨ρ'', I'', s'', h1.trans k1, k2, k3, k4⟩
  | _ => exact ⟨ρ', I', s', h1, h2, h3, h4⟩

theorem Tri.cond {c : Operand} {x y : Code} {Q : Exit → St → Prop} {s : St} {b : Bool} (hc : evA G s.t c = .bool b) (h1 : b = true → Tri G x Q s) (h2 : b = false → Tri G y Q s) : Tri G (.cond c x y) Q s := by
  intro ρ I a w hC hr
  have := rel_evA hC hr c
  rw [hc, rel_bool] at this
  exact wp_cond_split this (fun e => h1 e ρ I a w hC hr) (fun e => h2 e ρ I a w hC hr)

theorem Tri.block {id : Nat} {c : Code} {Q : Exit → St → Prop} {s : St} (h : Tri G c (blockA id Q) s) : Tri G (.block id c) Q s := by
  intro ρ I a w hc hr
  refine wp_block (wp_mono (h ρ I a w hc hr) ?_)
  rintro e a' w' ⟨ρ', I', s', h1, h2, h3, h4⟩
  cases e with
  | exit i =>
    simp only [Exit.inBlock]
    simp only [blockA] at h4
    split
    · rename_i e; rw [e, beq_self_eq_true] at h4; exact ⟨ρ', I', s', h1, h2, h3, h4⟩
    · rename_i e; rw [show (i == id) = false by simpa using e] at h4; exact ⟨ρ', I', s', h1, h2, h3, h4⟩
  | _ => exact ⟨ρ', I', s', h1, h2, h3, h4⟩

/-- A region in the order of its text. -/
theorem Tri.region {id : Nat} {ops : Array Oper} {Q : Exit → St → Prop} {s : St} (h : aops G ops ops.toList s (Q .normal)) : Tri G (.region id ops false) Q s := by
  intro ρ I a w hc hr
  refine wp_region_list (aops_sound ops.toList hc hr h ?_)
  intro ρ' I' s' a' w' g c r k
  exact ⟨ρ', I', s', g, c, r, k⟩

theorem wp_loopN {c : Code} {Q : Exit → Act → World → Prop} (J : Nat → Act → World → Prop) (n : Nat) {a : Act} (h0 : J n a w)
    (round : ∀ n a w, J n a w → c.wp P (Exit.then (fun a' w' => ∃ m, m < n ∧ J m a' w') Q) a w) : (Code.loop c).wp P Q a w := by
  intro b k cs
  have key : ∀ (n : Nat) (a : Act) (w : World), J n a w → ∃ e a' w', Q e a' w' ∧ Arrives P (lone (b.at a (.code c :: .inLoop c :: k)) cs w) b k cs e a' w' := by
    intro n
    induction n using Nat.strongRecOn with
    | _ n ih =>
      intro a w hI
      obtain ⟨e, a1, w1, hq, harr⟩ := round n a w hI b (.inLoop c :: k) cs
      cases e with
      | normal =>
        obtain ⟨m, hlt, hI1⟩ := hq
        obtain ⟨e2, a2, w2, hq2, harr2⟩ := ih m hlt a1 w1 hI1
        exact ⟨e2, a2, w2, hq2, .of_steps (Steps.trans harr (.one step_inLoop)) harr2⟩
      | exit id => exact ⟨_, a1, w1, hq, .pass (x := .inLoop c) rfl (fun _ _ => .inl (by simp)) harr⟩
      | goto l => exact ⟨_, a1, w1, hq, .pass (x := .inLoop c) rfl (fun _ _ => .inl (by simp)) harr⟩
      | ret => exact ⟨_, a1, w1, hq, .pass (x := .inLoop c) rfl (fun _ _ => .inl (by simp)) harr⟩
      | panic ch => exact ⟨_, a1, w1, hq, .pass (x := .inLoop c) rfl (fun _ _ => .inl (by simp)) harr⟩
      | outgrown => exact ⟨_, a1, w1, hq, .pass (x := .inLoop c) rfl (fun _ _ => .inl (by simp)) harr⟩
  obtain ⟨e, a', w', hq, harr⟩ := key n a w h0
  exact ⟨e, a', w', hq, .of_steps (.one step_loop) harr⟩

/-- A loop: what holds at each round's head, and a number that gets less. -/
theorem Tri.loop {c : Code} {Q : Exit → St → Prop} {s : St} (Inv : Nat → St → Prop) (n : Nat) (h0 : Inv n s)
    (round : ∀ n s, Inv n s → Tri G c (thenA (fun s' => ∃ m, m < n ∧ Inv m s') Q) s) : Tri G (.loop c) Q s := by
  intro ρ I a w hc hr
  refine wp_loopN (fun n a' w' => ∃ (ρ' : Rho) (I' : Imm) (s' : St), Inv n s' ∧ Good ρ I s.H w ρ' I' s'.H w' ∧ Conc G.g ρ' I' s'.H w' ∧ RelT ρ' I' w' s'.t a') n
    ⟨ρ, I, s, h0, Good.refl _ _ _ _, hc, hr⟩ ?_
  rintro n a1 w1 ⟨ρ1, I1, s1, hI, hg, hC, hR⟩
  refine wp_mono (round n s1 hI ρ1 I1 a1 w1 hC hR) ?_
  rintro e a' w' ⟨ρ', I', s', k1, k2, k3, k4⟩
  cases e with
  | normal =>
    obtain ⟨m, hm, hi⟩ := k4
    exact ⟨m, hm, ρ', I', s', hi, hg.trans k1, k2, k3⟩
  | _ => exact ⟨ρ', I', s', hg.trans k1, k2, k3, k4⟩
end
end
end Go.V

/- The abstract layer (second state), part K: calls. -/
set_option linter.unusedSimpArgs false
set_option linter.unusedVariables false
namespace Go.V
open Go
noncomputable section

section
variable {P : Program} (G : Env P)
/-- A call that takes plain values and comes to a plain value. -/
def FCall (f : FuncId) (args : List AV) (v : AV) : Prop :=
  pureL args = true ∧ pureA v = true ∧ ACall G f args [] fun v' _ => v' = v
/-- References to entries that grow. -/
def growsB (H : Heap) (id : Nat) : Bool := match H[id]? with
  | some e => e.grows
  | none => false
end

section
variable {P : Program} {G : Env P} {ρ : Rho} {I : Imm} {H : Heap} {w : World}

theorem noMut {ρ : Rho} {b o : Nat} : ¬ Mut ρ ([] : Heap) b o := fun ⟨_, _, h, _⟩ => by simp at h

theorem ACall.mono {f : FuncId} {args : List AV} {R R' : AV → Heap → Prop} (h : ACall G f args H R) (hr : ∀ v H', R v H' → R' v H') : ACall G f args H R' := by
  intro ρ I w vs c r
  refine Calls.mono (h ρ I w vs c r) ?_
  rintro e w' ⟨x, rfl, ρ', I', v, H', g1, g2, g3, g4⟩
  exact ⟨x, rfl, ρ', I', v, H', g1, g2, g3, hr _ _ g4⟩

theorem empty_conc (c : Conc G.g ρ I H w) : Conc G.g (fun _ => none) I [] w :=
  ⟨fun _ h => absurd rfl h, fun _ h => by simp at h, fun _ _ h => by simp at h, fun _ _ _ _ _ h => by simp at h, fun _ _ _ h => by simp at h, fun _ _ h => by simp at h,
    fun b o hb => ⟨(c.imm b o hb).1, noMut⟩, c.glob⟩

theorem FCall.lift {f : FuncId} {args : List AV} {v : AV} (h : FCall G f args v) (c : Conc G.g ρ I H w) {vs : List Value} (r : RV ρ I w args vs) :
    Calls P f vs.toArray w fun e w' => ∃ x, e = .returned x ∧ ∃ I', Good ρ I H w ρ I' H w' ∧ Conc G.g ρ I' H w' ∧ Mono ρ I w ρ I' w' ∧ rel ρ I' w' v x := by
  obtain ⟨hp, hv, hc⟩ := h
  refine (hc (fun _ => none) I w vs (empty_conc c) (RV_pure hp r)).mono ?_
  rintro e w' ⟨x, rfl, ρ', I', v', H', g, c', hr, rfl⟩
  have g' : Good ρ I H w ρ I' H w' := by
    refine ⟨fun _ _ h => h, fun _ _ _ h => h, Nat.le_refl _, g.imm, fun b o hb h => .inl ((g.imm' b o hb h).resolve_right noMut), g.os, g.tape, g.out, g.size, fun b o hb _ => g.cell b o hb noMut,
      fun b hb _ => g.block b hb (fun _ => noMut), g.bs, fun _ _ _ h => h, fun _ _ h => h⟩
  have m := c.mono g' fun _ _ h => h
  have blk : ∀ b, b < w.heap.size → w'.heap[b]? = w.heap[b]? := fun b hb => g.block b hb (fun _ => noMut)
  refine ⟨x, rfl, I', g', ?_, m, rel_pure hv hr⟩
  refine ⟨c.dom, c.res, fun id b h => Nat.lt_of_lt_of_le (c.blt id b h) g.size, c.inj, ?_, ?_, ?_, ?_⟩
  · intro id cs f h
    obtain ⟨b, el, fr, us, k1, k2, k3, k4⟩ := c.blk id cs f h
    exact ⟨b, el, fr, us, k1, by rw [blk b (c.blt id b k1)]; exact k2, RL_mono m _ _ k3, k4⟩
  · intro id e h he
    obtain ⟨q, h⟩ := c.grow id e h he
    refine ⟨q, ?_⟩
    rcases h with h | ⟨b, el, fr, us, rest, k1, k2, k3, k4⟩
    · exact .inl h
    · exact .inr ⟨b, el, fr, us, rest, k1, by rw [blk b (c.blt id b k1)]; exact k2, RL_mono m _ _ k3, k4⟩
  · intro b o hb
    obtain ⟨h1, _⟩ := c'.imm b o hb
    refine ⟨h1, fun hm => ?_⟩
    obtain ⟨id, e, q1, q2, q3, q4⟩ := hm
    have hlt := c.blt id b q3
    exact (c.imm b o ((g.imm' b o hlt hb).resolve_right noMut)).2 ⟨id, e, q1, q2, q3, q4⟩
  · exact c'.glob

theorem ACall.of_f {f : FuncId} {args : List AV} {v : AV} (h : FCall G f args v) {R : AV → Heap → Prop} (hr : R v H) : ACall G f args H R := by
  intro ρ I w vs c r
  refine (h.lift c r).mono ?_
  rintro e w' ⟨x, rfl, I', g, c', m, hx⟩
  exact ⟨x, rfl, ρ, I', v, H, g, c', hx, hr⟩

/-- A call of a function whose value is known. -/
theorem callS.of_f {f : FuncId} {args : List AV} {v : AV} (h : FCall G f args v) {s : St} {d : Option Tmp} {K : St → Prop} (hk : K ⟨putA s.t d v, s.H⟩) : callS G f args s d K := by
  intro ρ I w a vs c r ra
  refine (h.lift c ra).mono ?_
  rintro e w' ⟨x, rfl, I', g, c', m, hx⟩
  exact ⟨x, rfl, ρ, I', ⟨putA s.t d v, s.H⟩, g, c', (r.mono m).put d hx, hk⟩

/-- Any call. -/
theorem callS.of_acall {f : FuncId} {args : List AV} {s : St} {d : Option Tmp} {K : St → Prop} (h : ACall G f args s.H fun v H' => K ⟨putA s.t d v, H'⟩) : callS G f args s d K := by
  intro ρ I w a vs c r ra
  refine (h ρ I w vs c ra).mono ?_
  rintro e w' ⟨x, rfl, ρ', I', v, H', g, c', hx, hk⟩
  have m : Mono ρ I w ρ' I' w' := c.mono g g.ext
  exact ⟨x, rfl, ρ', I', ⟨_, H'⟩, g, c', (r.mono m).put d hx, hk⟩

/-- A body that comes to a plain value. -/
theorem FCall.of_acall {f : FuncId} {args : List AV} {v : AV} (hp : pureL args = true) (hv : pureA v = true) (h : ACall G f args [] fun v' _ => v' = v) : FCall G f args v := ⟨hp, hv, h⟩
end
end
end Go.V
