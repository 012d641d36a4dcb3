/- The abstract layer (third state), part B: new blocks at kept numbers, entries that go over to other numbers, rows that are appended to. -/
import Derived.Test.YtfjmpdoidkblcaaDoorWA
import Derived.Deep.AppendSrc
import Derived.Laws.AppendOwn
import Derived.Laws.MakeOwn
import Derived.Great.BuildSlice
import Derived.Laws.IdiomCopy
set_option linter.unusedSimpArgs false
set_option linter.unusedVariables false
namespace Go.V
open Go
noncomputable section

section
variable {P : Program} {G : Env P} {g : Nat → Option (List AV)} {ρ : Rho} {I : Imm} {H : Heap} {w : World}

/-- A new entry whose number was kept. -/
theorem fill_gen (c : Conc g ρ I H w) {nid : Nat} (hn : H[nid]? = some .res) (e : Ent) (x : Option Nat) {w' : World} (hx : ∀ b, x = some b → w.heap.size ≤ b ∧ b < w'.heap.size) (hsz : w.heap.size ≤ w'.heap.size)
    (hold : ∀ b, b < w.heap.size → w'.heap[b]? = w.heap[b]?) (hl : e.live = true)
    (h1 : ∀ cs f, e = .blk cs f → ∃ b el fr us, x = some b ∧ w'.heap[b]? = some (.cells (List.toArray us) el fr) ∧ RL ρ I w cs us ∧ clear fr us.length)
    (h2 : e.grows = true → e.even ∧ ((x = none ∧ szL e.cells = 0) ∨ ∃ b el fr cs rest, x = some b ∧ w'.heap[b]? = some (.cells (List.toArray (cs ++ rest)) el fr) ∧ RL ρ I w e.cells cs ∧ clear fr (cs ++ rest).length))
    (hos : w'.os = w.os) (htape : w'.tape = w.tape) (hout : w'.output = w.output) :
    Good ρ I H w (bindR ρ nid x) I (H.set nid e) w' ∧ Conc g (bindR ρ nid x) I (H.set nid e) w' ∧ Mono ρ I w (bindR ρ nid x) I w' := by
  have hlt : nid < H.length := (List.getElem?_eq_some_iff.1 hn).1
  have hnone := c.res nid hn
  have hset : ∀ i e1, (H.set nid e)[i]? = some e1 → (i = nid ∧ e1 = e) ∨ (i ≠ nid ∧ H[i]? = some e1) := fun i e1 h => set_cases h
  have ho : ∀ i, i ≠ nid → bindR ρ nid x i = ρ i := fun i hi => by simp [bindR, hi]
  have hnew : bindR ρ nid x nid = some x := by simp [bindR]
  have gd : Good ρ I H w (bindR ρ nid x) I (H.set nid e) w' := by
    refine ⟨fun id y h => .inl (bindR_old hnone h), fun id y h ⟨e1, k1, k2⟩ => ?_, by simp, fun _ _ h => h, fun _ _ _ h => .inl h, hos, htape, hout, hsz, fun b off h _ => by simp only [World.cell?, hold b h], fun b h _ => hold b h,
      fun b h => by unfold bsz; rw [hold b h], ?_, ?_⟩
    · rcases hset id e1 k1 with ⟨rfl, _⟩ | ⟨_, k⟩
      · rw [hnone] at h; simp at h
      · exact ⟨e1, k, k2⟩
    · rintro b off hb ⟨i, e1, k1, k2, k3, k4⟩
      rcases hset i e1 k1 with ⟨rfl, rfl⟩ | ⟨hi, h⟩
      · rw [hnew] at k3; have := hx b (by simpa using k3); omega
      · rw [ho i hi] at k3; exact ⟨i, e1, h, k2, k3, k4⟩
    · rintro b hb ⟨i, e1, k1, k2, k3⟩
      rcases hset i e1 k1 with ⟨rfl, rfl⟩ | ⟨hi, h⟩
      · rw [hnew] at k3; have := hx b (by simpa using k3); omega
      · rw [ho i hi] at k3; exact ⟨i, e1, h, k2, k3⟩
  have m := c.mono gd fun id y h => bindR_old hnone h
  refine ⟨gd, ⟨?_, ?_, ?_, ?_, ?_, ?_, ?_, ?_⟩, m⟩
  · intro id h
    by_cases e : id = nid
    · subst e; simpa using hlt
    · rw [ho id e] at h; simpa using c.dom id h
  · intro id h
    rcases hset id _ h with ⟨_, h'⟩ | ⟨hi, h'⟩
    · rw [← h'] at hl; simp [Ent.live] at hl
    · rw [ho id hi]; exact c.res id h'
  · intro id b h
    by_cases e : id = nid
    · subst e; rw [hnew] at h; exact (hx b (by simpa using h)).2
    · rw [ho id e] at h; have := c.blt id b h; omega
  · intro i j b e1 e2 hi l1 hj l2 hbi hbj
    rcases hset i e1 hi with ⟨rfl, rfl⟩ | ⟨ki, hi'⟩ <;> rcases hset j e2 hj with ⟨rfl, rfl⟩ | ⟨kj, hj'⟩
    · rfl
    · rw [hnew] at hbi; rw [ho j kj] at hbj; have := hx b (by simpa using hbi); have := c.blt j b hbj; omega
    · rw [hnew] at hbj; rw [ho i ki] at hbi; have := hx b (by simpa using hbj); have := c.blt i b hbi; omega
    · rw [ho i ki] at hbi; rw [ho j kj] at hbj; exact c.inj i j b e1 e2 hi' l1 hj' l2 hbi hbj
  · intro id cs f h
    rcases hset id _ h with ⟨rfl, h'⟩ | ⟨hi, h'⟩
    · obtain ⟨b, el, fr, us, k0, k1, k2, k3⟩ := h1 cs f h'.symm
      exact ⟨b, el, fr, us, by rw [hnew, k0], k1, RL_mono m _ _ k2, k3⟩
    · obtain ⟨b, el', fr, us, k1, k2, k3, k4⟩ := c.blk id cs f h'
      exact ⟨b, el', fr, us, by rw [ho id hi]; exact k1, by rw [hold b (c.blt id b k1)]; exact k2, RL_mono m _ _ k3, k4⟩
  · intro id e1 h he
    rcases hset id _ h with ⟨rfl, rfl⟩ | ⟨hi, h'⟩
    · obtain ⟨q, k⟩ := h2 he
      refine ⟨q, ?_⟩
      rcases k with ⟨k0, k1⟩ | ⟨b, el, fr, us, rest, k0, k1, k2, k3⟩
      · exact .inl ⟨by rw [hnew, k0], k1⟩
      · exact .inr ⟨b, el, fr, us, rest, by rw [hnew, k0], k1, RL_mono m _ _ k2, k3⟩
    · obtain ⟨q, h'⟩ := c.grow id e1 h' he
      refine ⟨q, ?_⟩
      rcases h' with ⟨k1, k2⟩ | ⟨b, el', fr, us, rest, k1, k2, k3, k4⟩
      · exact .inl ⟨by rw [ho id hi]; exact k1, k2⟩
      · exact .inr ⟨b, el', fr, us, rest, by rw [ho id hi]; exact k1, by rw [hold b (c.blt id b k1)]; exact k2, RL_mono m _ _ k3, k4⟩
  · intro b o hb
    obtain ⟨q1, q2⟩ := c.imm b o hb
    exact ⟨by omega, fun h => q2 (gd.wrt b o q1 h)⟩
  · intro gl cs h
    obtain ⟨us, q1, q2⟩ := c.glob gl cs h
    exact ⟨us, RL_mono m.none _ _ q1, q2.mono m.imm⟩

/-- An entry is forgotten. -/
theorem dead_conc (c : Conc g ρ I H w) (id : Nat) : (H[id]? ≠ some .res) → Good ρ I H w ρ I (H.set id .dead) w ∧ Conc g ρ I (H.set id .dead) w := by
  intro hne
  have hset : ∀ i e1, (H.set id .dead)[i]? = some e1 → (i = id ∧ e1 = .dead) ∨ (i ≠ id ∧ H[i]? = some e1) := fun i e1 h => set_cases h
  have live : ∀ (i : Nat) (e1 : Ent), (H.set id .dead)[i]? = some e1 → e1.live = true → H[i]? = some e1 := by
    intro i e1 h hl
    rcases hset i e1 h with ⟨_, rfl⟩ | ⟨_, h⟩
    · simp [Ent.live] at hl
    · exact h
  have gl : ∀ (e : Ent), e.grows = true → e.live = true := by intro e h; cases e <;> simp_all [Ent.grows, Ent.live]
  have gd : Good ρ I H w ρ I (H.set id .dead) w :=
    ⟨fun _ _ h => .inl h, fun i x _ ⟨e, h1, h2⟩ => ⟨e, live i e h1 (gl e h2), h2⟩, by simp, fun _ _ h => h, fun _ _ _ h => .inl h, rfl, rfl, rfl, Nat.le_refl _, fun _ _ _ _ => rfl, fun _ _ _ => rfl, fun _ _ => rfl,
      fun b o _ ⟨i, e, h1, h2, h3, h4⟩ => ⟨i, e, live i e h1 h2, h2, h3, h4⟩, fun b _ ⟨i, e, h1, h2, h3⟩ => ⟨i, e, live i e h1 h2, h2, h3⟩⟩
  refine ⟨gd, fun i h => by simpa using c.dom i h, fun i h => ?_, c.blt, fun i j b e e' hi l1 hj l2 => c.inj i j b e e' (live i e hi l1) l1 (live j e' hj l2) l2,
    fun i cs f h => c.blk i cs f (live i _ h rfl), fun i e h he => c.grow i e (live i _ h (gl e he)) he, fun b o h => ⟨(c.imm b o h).1, fun hm => (c.imm b o h).2 (gd.wrt b o (c.imm b o h).1 hm)⟩, c.glob⟩
  rcases hset i _ h with ⟨_, h⟩ | ⟨_, h⟩
  · simp at h
  · exact c.res i h

/-- An entry goes over to a number that was kept; the old number's is forgotten. -/
theorem move_conc (c : Conc g ρ I H w) {id nid : Nat} {e : Ent} {y : Option Nat} (hid : H[id]? = some e) (hl : e.live = true) (hy : ρ id = some y) (hn : H[nid]? = some .res) :
    Good ρ I H w (bindR ρ nid y) I ((H.set nid e).set id .dead) w ∧ Conc g (bindR ρ nid y) I ((H.set nid e).set id .dead) w ∧ Mono ρ I w (bindR ρ nid y) I w := by
  have hne : id ≠ nid := by rintro rfl; rw [hid] at hn; simp at hn; subst hn; simp [Ent.live] at hl
  have hlt : nid < H.length := (List.getElem?_eq_some_iff.1 hn).1
  have hlt' : id < H.length := (List.getElem?_eq_some_iff.1 hid).1
  have hnone := c.res nid hn
  have ho : ∀ i, i ≠ nid → bindR ρ nid y i = ρ i := fun i hi => by simp [bindR, hi]
  have hnew : bindR ρ nid y nid = some y := by simp [bindR]
  have hset : ∀ i e1, ((H.set nid e).set id .dead)[i]? = some e1 → (i = id ∧ e1 = .dead) ∨ (i = nid ∧ e1 = e) ∨ (i ≠ nid ∧ i ≠ id ∧ H[i]? = some e1) := by
    intro i e1 h
    rcases set_cases h with h | ⟨h1, h2⟩
    · exact .inl h
    · rcases set_cases h2 with h | ⟨h3, h4⟩
      · exact .inr (.inl h)
      · exact .inr (.inr ⟨h3, h1, h4⟩)
  -- each live entry is one of old
  have old : ∀ (i : Nat) (e1 : Ent), ((H.set nid e).set id .dead)[i]? = some e1 → e1.live = true → ∃ j, H[j]? = some e1 ∧ bindR ρ nid y i = ρ j ∧ ((i = nid ∧ j = id) ∨ (i ≠ nid ∧ i ≠ id ∧ j = i)) := by
    intro i e1 h h1
    rcases hset i e1 h with ⟨_, rfl⟩ | ⟨rfl, rfl⟩ | ⟨h2, h3, h4⟩
    · simp [Ent.live] at h1
    · exact ⟨id, hid, by rw [hnew, hy], .inl ⟨rfl, rfl⟩⟩
    · exact ⟨i, h4, ho i h2, .inr ⟨h2, h3, rfl⟩⟩
  have gl : ∀ (e : Ent), e.grows = true → e.live = true := by intro e h; cases e <;> simp_all [Ent.grows, Ent.live]
  have gd : Good ρ I H w (bindR ρ nid y) I ((H.set nid e).set id .dead) w := by
    refine ⟨fun id x h => .inl (bindR_old hnone h), fun i x hx ⟨e1, k1, k2⟩ => ?_, by simp, fun _ _ h => h, fun _ _ _ h => .inl h, rfl, rfl, rfl, Nat.le_refl _, fun _ _ _ _ => rfl, fun _ _ _ => rfl, fun _ _ => rfl, ?_, ?_⟩
    · rcases hset i e1 k1 with ⟨_, rfl⟩ | ⟨rfl, rfl⟩ | ⟨_, _, h⟩
      · simp [Ent.grows] at k2
      · rw [hnone] at hx; simp at hx
      · exact ⟨e1, h, k2⟩
    · rintro b o hb ⟨i, e1, h1, h2, h3, h4⟩
      obtain ⟨j, k1, k2, _⟩ := old i e1 h1 h2
      exact ⟨j, e1, k1, h2, k2 ▸ h3, h4⟩
    · rintro b hb ⟨i, e1, h1, h2, h3⟩
      obtain ⟨j, k1, k2, _⟩ := old i e1 h1 h2
      exact ⟨j, e1, k1, h2, k2 ▸ h3⟩
  have m := c.mono gd fun id x h => bindR_old hnone h
  refine ⟨gd, ⟨?_, ?_, ?_, ?_, ?_, ?_, ?_, ?_⟩, m⟩
  · intro i h
    by_cases e : i = nid
    · subst e; simpa using hlt
    · rw [ho i e] at h; simpa using c.dom i h
  · intro i h
    rcases hset i _ h with ⟨_, h'⟩ | ⟨_, h'⟩ | ⟨h1, _, h'⟩
    · simp at h'
    · rw [← h'] at hl; simp [Ent.live] at hl
    · rw [ho i h1]; exact c.res i h'
  · intro i b h
    by_cases e : i = nid
    · subst e; rw [hnew, ← hy] at h; exact c.blt id b h
    · rw [ho i e] at h; exact c.blt i b h
  · intro i j b e1 e2 hi l1 hj l2 hbi hbj
    obtain ⟨i', a1, a2, a3⟩ := old i e1 hi l1
    obtain ⟨j', b1, b2, b3⟩ := old j e2 hj l2
    have := c.inj i' j' b e1 e2 a1 l1 b1 l2 (a2 ▸ hbi) (b2 ▸ hbj)
    rcases a3 with ⟨_, _⟩ | ⟨_, _, _⟩ <;> rcases b3 with ⟨_, _⟩ | ⟨_, _, _⟩ <;> omega
  · intro i cs f h
    obtain ⟨j, k1, k2, _⟩ := old i _ h rfl
    obtain ⟨b, el, fr, us, q1, q2, q3, q4⟩ := c.blk j cs f k1
    exact ⟨b, el, fr, us, by rw [k2]; exact q1, q2, RL_mono m _ _ q3, q4⟩
  · intro i e1 h he
    obtain ⟨j, k1, k2, _⟩ := old i _ h (gl e1 he)
    obtain ⟨q, h'⟩ := c.grow j e1 k1 he
    refine ⟨q, ?_⟩
    rcases h' with ⟨q1, q2⟩ | ⟨b, el, fr, us, rest, q1, q2, q3, q4⟩
    · exact .inl ⟨by rw [k2]; exact q1, q2⟩
    · exact .inr ⟨b, el, fr, us, rest, by rw [k2]; exact q1, q2, RL_mono m _ _ q3, q4⟩
  · intro b o hb
    obtain ⟨q1, q2⟩ := c.imm b o hb
    exact ⟨q1, fun h => q2 (gd.wrt b o q1 h)⟩
  · intro gl cs h
    obtain ⟨us, q1, q2⟩ := c.glob gl cs h
    exact ⟨us, RL_mono m.none _ _ q1, q2.mono m.imm⟩

/-- Trailing kept numbers, given back. -/
theorem drop_res (c : Conc g ρ I (H ++ [.res]) w) : Conc g ρ I H w := by
  have up : ∀ (i : Nat) (e : Ent), H[i]? = some e → (H ++ [.res])[i]? = some e := fun i e h => by
    rw [List.getElem?_append_left (List.getElem?_eq_some_iff.1 h).1]; exact h
  refine ⟨fun id h => ?_, fun id h => c.res id (up id _ h), c.blt, fun i j b e e' hi l1 hj l2 => c.inj i j b e e' (up i e hi) l1 (up j e' hj) l2, fun i cs f h => c.blk i cs f (up i _ h), fun i e h he => c.grow i e (up i _ h) he,
    fun b o h => ⟨(c.imm b o h).1, fun ⟨i, e, h1, h2⟩ => (c.imm b o h).2 ⟨i, e, up i e h1, h2⟩⟩, c.glob⟩
  have h1 := c.dom id h
  refine Classical.byContradiction fun h2 => h (c.res id ?_)
  have : id = H.length := by simp at h1; omega
  subst this; simp

theorem drop_res_good {ρ0 : Rho} {I0 : Imm} {H0 : Heap} {w0 : World} (hl : H0.length ≤ H.length) (gd : Good ρ0 I0 H0 w0 ρ I (H ++ [.res]) w) : Good ρ0 I0 H0 w0 ρ I H w := by
  have up : ∀ (i : Nat) (e : Ent), H[i]? = some e → (H ++ [.res])[i]? = some e := fun i e h => by
    rw [List.getElem?_append_left (List.getElem?_eq_some_iff.1 h).1]; exact h
  exact ⟨gd.ext, fun i x h ⟨e, h1, h2⟩ => gd.kp i x h ⟨e, up i e h1, h2⟩, hl, gd.imm, gd.imm', gd.os, gd.tape, gd.out, gd.size, gd.cell, gd.block, gd.bs, fun b o hb ⟨i, e, h1, h2⟩ => gd.wrt b o hb ⟨i, e, up i e h1, h2⟩,
    fun b hb ⟨i, e, h1, h2⟩ => gd.own b hb ⟨i, e, up i e h1, h2⟩⟩

end
end
end Go.V
