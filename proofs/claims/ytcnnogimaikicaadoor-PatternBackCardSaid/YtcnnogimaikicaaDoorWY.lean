/- The abstract layer (third state), part Y: rows that are appended to and told by their numbers: those that stand are written no more. -/
import Derived.Test.YtcnnogimaikicaaDoorWZ

set_option linter.unusedSimpArgs false
set_option linter.unusedVariables false
namespace Go.V
open Go
noncomputable section

/-- Rows, one by one. -/
def rowsL (n : Nat) (f : Nat → List AV) : List AV := (List.range n).map fun i => .agg (f i)
def catF (n : Nat) (f g : Nat → List AV) (i : Nat) : List AV := bif ltB i n then f i else g (i - n)
def rowF (rows : List AV) (i : Nat) : List AV := (rows.getD i .any).cells

theorem rowsL_len (n : Nat) (f : Nat → List AV) : (rowsL n f).length = n := by simp [rowsL]
theorem rowsL_get {n : Nat} {f : Nat → List AV} {i : Nat} (h : i < n) : (rowsL n f)[i]? = some (.agg (f i)) := by simp [rowsL, h]
theorem rowsL_cat (n m : Nat) (f g : Nat → List AV) : rowsL (n + m) (catF n f g) = rowsL n f ++ rowsL m g := by
  apply List.ext_getElem?
  intro i
  rcases Nat.lt_or_ge i n with h | h
  · rw [rowsL_get (by omega), List.getElem?_append_left (by rw [rowsL_len]; exact h), rowsL_get h]
    simp [catF, ltB_iff.2 h]
  · rcases Nat.lt_or_ge i (n + m) with h2 | h2
    · rw [rowsL_get h2, List.getElem?_append_right (by rw [rowsL_len]; exact h), rowsL_len, rowsL_get (by omega)]
      have : ltB i n = false := by
        cases hb : ltB i n with
        | false => rfl
        | true => have := ltB_iff.1 hb; omega
      simp [catF, this]
    · rw [List.getElem?_eq_none (by rw [rowsL_len]; exact h2), List.getElem?_eq_none (by rw [List.length_append, rowsL_len, rowsL_len]; exact h2)]

section
variable {ρ : Rho} {I : Imm} {w : World}

theorem RL_flat {k : Nat} : ∀ {rows : List AV} {vs : List Value}, (∀ a ∈ rows, szA a = k) → RL ρ I w rows vs → vs.length = rows.length * k
  | [], _, _, h => by cases h; simp
  | a :: as, _, hk, h => by
    obtain ⟨ys, zs, rfl, h1, h2⟩ := RL_cons.1 h
    rw [List.length_append, R_len a ys h1, hk a (by simp), RL_flat (fun b hb => hk b (by simp [hb])) h2, List.length_cons, Nat.add_mul, Nat.one_mul, Nat.add_comm]

theorem rows_of_RL {k n : Nat} {f : Nat → List AV} {vs : List Value} (hk : ∀ a ∈ rowsL n f, szA a = k) (h : RL ρ I w (rowsL n f) vs) : vs.length = n * k ∧ ∀ i, i < n → RL ρ I w (f i) ((vs.drop (i * k)).take k) := by
  refine ⟨by rw [RL_flat hk h, rowsL_len], fun i hi => ?_⟩
  obtain ⟨ys, h1, _, _, h4⟩ := RL_rows hk h (rowsL_get hi)
  rw [h4]
  exact h1

theorem RL_of_rows {k n : Nat} {f : Nat → List AV} {vs : List Value} (hl : vs.length = n * k) (h : ∀ i, i < n → RL ρ I w (f i) ((vs.drop (i * k)).take k)) : RL ρ I w (rowsL n f) vs ∧ ∀ a ∈ rowsL n f, szA a = k := by
  refine ⟨RL_ranged n vs hl h, fun a ha => ?_⟩
  obtain ⟨i, hi, rfl⟩ := List.mem_map.1 ha
  have hi := List.mem_range.1 hi
  have := RL_len _ _ (h i hi)
  rw [List.length_take, List.length_drop, hl, ← Nat.sub_mul] at this
  have h1 : 1 * k ≤ (n - i) * k := Nat.mul_le_mul_right k (by omega)
  show szL (f i) = k
  omega

/-- Any rows are told by their numbers. -/
theorem RL_rowF {k : Nat} {rows : List AV} {vs : List Value} (hk : ∀ a ∈ rows, szA a = k) (h : RL ρ I w rows vs) : RL ρ I w (rowsL rows.length (rowF rows)) vs ∧ ∀ a ∈ rowsL rows.length (rowF rows), szA a = k := by
  refine RL_of_rows (RL_flat hk h) fun i hi => ?_
  obtain ⟨ys, h1, _, _, h4⟩ := RL_rows hk h (List.getElem?_eq_getElem hi)
  rw [h4]
  have : rowF rows i = rows[i].cells := by simp [rowF, hi]
  rw [this]
  exact R_cells h1
end

section
variable {g : Nat → Option (List AV)} {ρ : Rho} {I : Imm} {H : Heap} {w : World}

/-- Rows that are owned turn into such as nobody writes. -/
theorem to_tail (c : Conc g ρ I H w) {id b k m : Nat} {f : Nat → List AV} {F : List (Nat × Nat)} (hid : H[id]? = some (.grow k (rowsL m f) F)) (hb : ρ id = some (some b)) (hF : ∀ o, inFrz F o → o < m * k) :
    (∀ {ρ0 : Rho} {I0 : Imm} {H0 : Heap} {w0 : World}, Good ρ0 I0 H0 w0 ρ I H w → (∀ o, inFrz F o → I b o ∨ w0.heap.size ≤ b) → Good ρ0 I0 H0 w0 ρ (andI I b (0, m * k)) (H.set id (.tail k m)) w) ∧ Conc g ρ (andI I b (0, m * k)) (H.set id (.tail k m)) w ∧ Mono ρ I w ρ (andI I b (0, m * k)) w := by
  have live : ∀ (j : Nat) (e3 : Ent), (H.set id (.tail k m))[j]? = some e3 → e3.live = true → ∃ e4 : Ent, H[j]? = some e4 ∧ e4.live = true ∧ (∀ o, inFrz e4.frz o → inFrz e3.frz o) := by
    intro j e3 hj l3
    rcases set_cases hj with ⟨rfl, rfl⟩ | ⟨_, h⟩
    · exact ⟨_, hid, rfl, fun o h => ⟨(0, m * k), by simp [Ent.frz], Nat.zero_le _, hF o h⟩⟩
    · exact ⟨e3, h, l3, fun _ h => h⟩
  have mutb : ∀ x o, Mut ρ (H.set id (.tail k m)) x o → Mut ρ H x o := by
    rintro x o ⟨j, e3, h1, h2, h3, h4⟩
    obtain ⟨e4, k1, k2, k3⟩ := live j e3 h1 h2
    exact ⟨j, e4, k1, k2, h3, fun h => h4 (k3 o h)⟩
  have m0 : Mono ρ I w ρ (andI I b (0, m * k)) w := ⟨fun _ _ h => h, fun _ _ h => ⟨.inl h, rfl⟩, fun _ h => ⟨h, rfl⟩⟩
  refine ⟨fun {ρ0 I0 H0 w0} gd hI => ⟨gd.ext, fun i x hx ⟨e1, h1, h2⟩ => gd.kp i x hx ?_, by simpa using gd.len, fun _ _ h => .inl (gd.imm _ _ h), ?_, gd.os, gd.tape, gd.out, gd.size, gd.cell, gd.block, gd.bs, fun x o hx h => gd.wrt x o hx (mutb x o h), ?_⟩, ⟨fun i h => by simpa using c.dom i h, ?_, c.blt, ?_, ?_, ?_, ?_, ?_⟩, m0⟩
  · rcases set_cases h1 with ⟨rfl, rfl⟩ | ⟨_, h⟩
    · exact ⟨_, hid, rfl⟩
    · exact ⟨e1, h, h2⟩
  · rintro x o hx (h | ⟨rfl, _, h2⟩)
    · exact gd.imm' x o hx h
    · by_cases hf : inFrz F o
      · rcases hI o hf with h | h
        · exact gd.imm' x o hx h
        · omega
      · exact .inr (gd.wrt x o hx ⟨id, _, hid, rfl, hb, hf⟩)
  · rintro x hx ⟨j, e3, h1, h2, h3⟩
    obtain ⟨e4, k1, k2, _⟩ := live j e3 h1 h2
    exact gd.own x hx ⟨j, e4, k1, k2, h3⟩
  · intro i h
    rcases set_cases h with ⟨rfl, h'⟩ | ⟨_, h⟩
    · simp at h'
    · exact c.res i h
  · intro i j x e1 e2 hi l1 hj l2 r1 r2
    obtain ⟨e3, k1, k2, _⟩ := live i e1 hi l1
    obtain ⟨e4, k3, k4, _⟩ := live j e2 hj l2
    exact c.inj i j x e3 e4 k1 k2 k3 k4 r1 r2
  · intro i cs f h
    rcases set_cases h with ⟨rfl, h'⟩ | ⟨_, h⟩
    · simp at h'
    · obtain ⟨b1, el1, fr1, us, k1, k2, k3, k4⟩ := c.blk i cs f h
      exact ⟨b1, el1, fr1, us, k1, k2, RL_mono m0 _ _ k3, k4⟩
  · intro i e1 h hg1
    rcases set_cases h with ⟨rfl, rfl⟩ | ⟨_, h⟩
    · obtain ⟨_, h⟩ := c.grow i _ hid rfl
      refine ⟨trivial, ?_⟩
      rcases h with ⟨h, _⟩ | ⟨b1, el1, fr1, us, rest, k1, k2, k3, k4⟩
      · rw [hb] at h; simp at h
      · exact .inr ⟨b1, el1, fr1, [], us ++ rest, k1, k2, rfl, k4⟩
    · obtain ⟨k0, h⟩ := c.grow i e1 h hg1
      refine ⟨k0, ?_⟩
      rcases h with k | ⟨b1, el1, fr1, us, rest, k1, k2, k3, k4⟩
      · exact .inl k
      · exact .inr ⟨b1, el1, fr1, us, rest, k1, k2, RL_mono m0 _ _ k3, k4⟩
  · rintro x o (hx | ⟨rfl, h1, h2⟩)
    · obtain ⟨k1, k2⟩ := c.imm x o hx
      exact ⟨k1, fun h => k2 (mutb x o h)⟩
    · refine ⟨c.blt id x hb, ?_⟩
      rintro ⟨j, e3, k1, k2, k3, k4⟩
      rcases set_cases k1 with ⟨rfl, rfl⟩ | ⟨hne, h⟩
      · exact k4 ⟨(0, m * k), by simp [Ent.frz], h1, h2⟩
      · exact hne (c.inj j id x e3 _ h k2 hid rfl k3 hb)
  · intro gl cs h
    obtain ⟨us, k1, k2⟩ := c.glob gl cs h
    exact ⟨us, GL_mono m0 k1, k2.mono m0.imm⟩

/-- .. with what holds of them. -/
theorem tailed (c : Conc g ρ I H w) {id k m : Nat} {f : Nat → List AV} {F : List (Nat × Nat)} (hid : H[id]? = some (.grow k (rowsL m f) F)) (hF : ∀ o, inFrz F o → o < m * k) (hk : k ≠ 0)
    (ho : ∀ i, i < m → okL (f i) = true) {v : Value} (hv : slR ρ w id 0 k m v) {ρ0 : Rho} {I0 : Imm} {H0 : Heap} {w0 : World} (gd : Good ρ0 I0 H0 w0 ρ I H w) (hI : ∀ o b, ρ id = some (some b) → inFrz F o → I b o ∨ w0.heap.size ≤ b) :
    ∃ I', Good ρ0 I0 H0 w0 ρ I' (H.set id (.tail k m)) w ∧ Conc g ρ I' (H.set id (.tail k m)) w ∧ Mono ρ I w ρ I' w ∧ rel ρ I' w (.slv id k m f) v := by
  obtain ⟨hev, hg⟩ := c.grow id _ hid rfl
  have hev : ∀ a ∈ rowsL m f, szA a = k := hev
  rcases hg with ⟨g1, g2⟩ | ⟨b, el, fr, us, rest, g1, g2, g3, g4⟩
  · have hm : m = 0 := by
      have : ∀ l : List AV, (∀ a ∈ l, szA a = k) → szL l = l.length * k := by
        intro l
        induction l with
        | nil => intro _; simp [szL]
        | cons a as ih => intro h; rw [szL, h a (by simp), ih (fun b hb => h b (by simp [hb])), List.length_cons, Nat.add_mul, Nat.one_mul, Nat.add_comm]
      have h2 := this _ hev
      rw [show szL (rowsL m f) = 0 from g2, rowsL_len] at h2
      rcases Nat.mul_eq_zero.1 h2.symm with h | h
      · exact h
      · exact absurd h hk
    subst hm
    have live : ∀ (j : Nat) (e3 : Ent), (H.set id (.tail k 0))[j]? = some e3 → e3.live = true → ∃ e4 : Ent, H[j]? = some e4 ∧ e4.live = true ∧ (j ≠ id → e4 = e3) := by
      intro j e3 hj l3
      rcases set_cases hj with ⟨rfl, rfl⟩ | ⟨hne, h⟩
      · exact ⟨_, hid, rfl, fun h => absurd rfl h⟩
      · exact ⟨e3, h, l3, fun _ => rfl⟩
    have mutb : ∀ x o, Mut ρ (H.set id (.tail k 0)) x o → Mut ρ H x o := by
      rintro x o ⟨j, e3, h1, h2, h3, h4⟩
      obtain ⟨e4, k1, k2, k3⟩ := live j e3 h1 h2
      have hne : j ≠ id := by rintro rfl; rw [g1] at h3; simp at h3
      exact ⟨j, e4, k1, k2, h3, by rw [k3 hne]; exact h4⟩
    refine ⟨I, ⟨gd.ext, fun i x hx ⟨e1, h1, h2⟩ => gd.kp i x hx ?_, by simpa using gd.len, gd.imm, gd.imm', gd.os, gd.tape, gd.out, gd.size, gd.cell, gd.block, gd.bs, fun x o hx h => gd.wrt x o hx (mutb x o h), ?_⟩,
      ⟨fun i h => by simpa using c.dom i h, ?_, c.blt, ?_, ?_, ?_, fun x o h => ⟨(c.imm x o h).1, fun hm => (c.imm x o h).2 (mutb x o hm)⟩, c.glob⟩, Mono.refl', ?_⟩
    · rcases set_cases h1 with ⟨rfl, rfl⟩ | ⟨_, h⟩
      · exact ⟨_, hid, rfl⟩
      · exact ⟨e1, h, h2⟩
    · rintro x hx ⟨j, e3, h1, h2, h3⟩
      obtain ⟨e4, k1, k2, _⟩ := live j e3 h1 h2
      exact gd.own x hx ⟨j, e4, k1, k2, h3⟩
    · intro i h
      rcases set_cases h with ⟨rfl, h'⟩ | ⟨_, h⟩
      · simp at h'
      · exact c.res i h
    · intro i j x e1 e2 hi l1 hj l2 r1 r2
      obtain ⟨e3, k1, k2, _⟩ := live i e1 hi l1
      obtain ⟨e4, k3, k4, _⟩ := live j e2 hj l2
      exact c.inj i j x e3 e4 k1 k2 k3 k4 r1 r2
    · intro i cs f h
      rcases set_cases h with ⟨rfl, h'⟩ | ⟨_, h⟩
      · simp at h'
      · exact c.blk i cs f h
    · intro i e1 h hg1
      rcases set_cases h with ⟨rfl, rfl⟩ | ⟨_, h⟩
      · exact ⟨trivial, .inl ⟨g1, rfl⟩⟩
      · exact c.grow i e1 h hg1
    · refine rel_slv.2 ⟨rel_vecr.2 ⟨ho, [], by simp, fun i hi => absurd hi (Nat.not_lt_zero _), ?_⟩, hv⟩
      rcases hv with ⟨b, cap, h1, _⟩ | ⟨_, a, rfl⟩
      · rw [g1] at h1; simp at h1
      · exact ⟨a, 0, rfl, Nat.le_refl _, by simp, .inl rfl⟩
  · obtain ⟨t1, t2, t3⟩ := to_tail c hid g1 hF
    refine ⟨_, t1 gd (fun o h => hI o b g1 h), t2, t3, rel_slv.2 ⟨rel_vecr.2 ⟨ho, us, (rows_of_RL hev g3).1, fun i hi => RL_mono t3 _ _ ((rows_of_RL hev g3).2 i hi), ?_⟩, hv.mono t3⟩⟩
    rcases hv with ⟨b2, cap, h1, rfl, h3, h4, h5⟩ | ⟨h0, a, rfl⟩
    · rw [g1] at h1
      simp only [Option.some.injEq] at h1
      subst h1
      refine ⟨_, cap, rfl, h3, by simp, .inr ⟨b, 0, rfl, h4, fun i x hx => ?_⟩⟩
      have hi := (List.getElem?_eq_some_iff.1 hx).1
      rw [Nat.zero_add]
      refine ⟨by rw [cell_of_heap g2, List.getElem?_append_left hi]; exact hx, .inr ⟨rfl, Nat.zero_le _, ?_⟩⟩
      rw [← (rows_of_RL hev g3).1]; exact hi
    · subst h0
      exact ⟨a, 0, rfl, Nat.le_refl _, by simp, .inl rfl⟩

/-- .. and back: what lies there is told by the slice. -/
theorem untail (c : Conc g ρ I H w) {id k n : Nat} {f : Nat → List AV} (hid : H[id]? = some (.tail k n)) {v : Value} (hv : rel ρ I w (.slv id k n f) v) :
    Good ρ I H w ρ I (H.set id (.grow k (rowsL n f) [(0, n * k)])) w ∧ Conc g ρ I (H.set id (.grow k (rowsL n f) [(0, n * k)])) w ∧ (∀ o b, ρ id = some (some b) → o < n * k → I b o) := by
  obtain ⟨h1, h2⟩ := rel_slv.1 hv
  obtain ⟨ho, vs, hl, hr, hvec⟩ := rel_vecr.1 h1
  obtain ⟨hrl, hev⟩ := RL_of_rows hl hr
  have live : ∀ (j : Nat) (e3 : Ent), (H.set id (.grow k (rowsL n f) [(0, n * k)]))[j]? = some e3 → e3.live = true → ∃ e4 : Ent, H[j]? = some e4 ∧ e4.live = true ∧ e4.frz = e3.frz := by
    intro j e3 hj l3
    rcases set_cases hj with ⟨rfl, rfl⟩ | ⟨_, h⟩
    · exact ⟨_, hid, rfl, rfl⟩
    · exact ⟨e3, h, l3, rfl⟩
  have mutb : ∀ x o, Mut ρ (H.set id (.grow k (rowsL n f) [(0, n * k)])) x o → Mut ρ H x o := by
    rintro x o ⟨j, e3, h1, h2, h3, h4⟩
    obtain ⟨e4, k1, k2, k3⟩ := live j e3 h1 h2
    exact ⟨j, e4, k1, k2, h3, by rw [k3]; exact h4⟩
  have lies : ∀ b, ρ id = some (some b) → 0 < n * k → b < w.heap.size ∧ Lies I w b 0 vs := by
    intro b hb hpos
    have hn : n ≠ 0 := by rintro rfl; simp at hpos
    rcases h2 with ⟨b2, cap, q1, rfl, q3, q4, q5⟩ | ⟨q, _⟩
    · rw [hb] at q1
      simp only [Option.some.injEq] at q1
      subst q1
      obtain ⟨a, cap', e1, e2, _, e4⟩ := hvec
      simp only [Value.slice.injEq] at e1
      obtain ⟨rfl, _, _⟩ := e1
      rcases e4 with e4 | ⟨b', off, e5, e6, e7⟩
      · exact absurd e4 hn
      · simp only [Option.some.injEq, Addr.mk.injEq] at e5
        obtain ⟨rfl, rfl, _⟩ := e5
        exact ⟨e6, e7⟩
    · exact absurd q hn
  refine ⟨⟨fun _ _ h => h, ?_, by simp, fun _ _ h => h, fun _ _ _ h => .inl h, rfl, rfl, rfl, Nat.le_refl _, fun _ _ _ _ => rfl, fun _ _ _ => rfl, fun _ _ => rfl, fun x o _ h => mutb x o h, ?_⟩,
    ⟨fun i h => by simpa using c.dom i h, ?_, c.blt, ?_, ?_, ?_, fun x o h => ⟨(c.imm x o h).1, fun hm => (c.imm x o h).2 (mutb x o hm)⟩, c.glob⟩, ?_⟩
  · rintro i x _ ⟨e1, h1, h2⟩
    rcases set_cases h1 with ⟨rfl, rfl⟩ | ⟨_, h⟩
    · exact ⟨_, hid, rfl⟩
    · exact ⟨e1, h, h2⟩
  · rintro x _ ⟨j, e3, h1, h2, h3⟩
    obtain ⟨e4, k1, k2, _⟩ := live j e3 h1 h2
    exact ⟨j, e4, k1, k2, h3⟩
  · intro i h
    rcases set_cases h with ⟨rfl, h'⟩ | ⟨_, h⟩
    · simp at h'
    · exact c.res i h
  · intro i j x e1 e2 hi l1 hj l2 r1 r2
    obtain ⟨e3, k1, k2, _⟩ := live i e1 hi l1
    obtain ⟨e4, k3, k4, _⟩ := live j e2 hj l2
    exact c.inj i j x e3 e4 k1 k2 k3 k4 r1 r2
  · intro i cs f h
    rcases set_cases h with ⟨rfl, h'⟩ | ⟨_, h⟩
    · simp at h'
    · exact c.blk i cs f h
  · intro i e1 h hg1
    rcases set_cases h with ⟨rfl, rfl⟩ | ⟨_, h⟩
    · obtain ⟨_, hg⟩ := c.grow i _ hid rfl
      refine ⟨hev, ?_⟩
      rcases hg with ⟨k1, _⟩ | ⟨b, el, fr, us, rest, k1, k2, k3, k4⟩
      · have hn : n = 0 := by
          rcases h2 with ⟨b2, cap, q1, _⟩ | ⟨q, _⟩
          · rw [k1] at q1; simp at q1
          · exact q
        subst hn
        exact .inl ⟨k1, rfl⟩
      · cases k3
        rcases Nat.eq_zero_or_pos (n * k) with hz | hpos
        · have : vs = [] := List.eq_nil_of_length_eq_zero (by rw [hl]; exact hz)
          subst this
          exact .inr ⟨b, el, fr, [], rest, k1, k2, hrl, k4⟩
        · obtain ⟨l1, l2⟩ := lies b k1 hpos
          have hpre : rest = vs ++ rest.drop vs.length := by
            have : rest.take vs.length = vs := by
              apply List.ext_getElem?
              intro i
              rcases Nat.lt_or_ge i vs.length with hi | hi
              · rw [List.getElem?_take, if_pos hi, List.getElem?_eq_getElem hi]
                have := (l2 i _ (List.getElem?_eq_getElem hi)).1
                rw [Nat.zero_add, cell_of_heap k2, List.nil_append] at this
                exact this
              · rw [List.getElem?_take, if_neg (by omega), List.getElem?_eq_none hi]
            exact (List.take_append_drop vs.length rest).symm.trans (by rw [this])
          refine .inr ⟨b, el, fr, vs, rest.drop vs.length, k1, ?_, hrl, ?_⟩
          · rw [← hpre]; exact k2
          · rw [← hpre]; exact k4
    · exact c.grow i e1 h hg1
  · intro o b hb ho'
    obtain ⟨_, l2⟩ := lies b hb (by omega)
    have := (l2 o _ (List.getElem?_eq_getElem (by rw [hl]; exact ho'))).2
    rwa [Nat.zero_add] at this
end

section
variable {P : Program} (G : Env P)

/-- Rows that are handed over, told by their numbers. -/
def srcV (tix : TI) (H : Heap) (x : AV) : Option (Nat × Bool × Nat × (Nat → List AV)) :=
  match tix.kind with
  | .slice _ => match x with
    | .vec _ k rows => some (k, rows.all fun r => okL r.cells, rows.length, rowF rows)
    | .vecr _ k n f => some (k, true, n, f)
    | .slv _ k n f => some (k, true, n, f)
    | .sl id off k len => match H[id]? with
      | some (.grow k' rows _) => some (k, ((k == k' && off == 0) && len == rows.length) && rows.all fun r => okL r.cells, rows.length, rowF rows)
      | _ => none
    | _ => none
  | _ => none

def appV (te : TI) (H : Heap) (nid : Nat) (s : AV) (m : Nat) (g : Nat → List AV) : Option Eff :=
  match s with
  | .vec full k l => some (.ck ((full && k == te.size) && l.isEmpty) (.ck (leB (m * te.bytes) 140737488355328) (.one true (.slv nid te.size m g) [(nid, .tail te.size m)])))
  | .vec8 full l => some (.ck (full && l.isEmpty) (.ck (leB (m * te.bytes) 140737488355328) (.one true (.slv nid te.size m g) [(nid, .tail te.size m)])))
  | .slv id k n f => match H[id]? with
    | some (.tail k' n') => some (.ck (k == te.size && k' == te.size) (.ck (n == n') (.ck (leB ((n + m) * te.bytes) 140737488355328)
        (.one true (.slv nid te.size (n + m) (catF n f g)) [(nid, .tail te.size (n + m)), (id, .dead)]))))
    | _ => none
  | _ => none

/-- Is this told by numbers? -/
def isV (s x : AV) : Bool := match s with
  | .slv _ _ _ _ => true
  | .vec _ _ _ => (match x with
    | .vecr _ _ _ _ => true
    | .slv _ _ _ _ => true
    | _ => false)
  | .vec8 _ _ => (match x with
    | .vecr _ _ _ _ => true
    | .slv _ _ _ _ => true
    | _ => false)
  | _ => false

def aRowApp (t tx : Nat) (H : Heap) (nid : Nat) (s x : AV) : Option Eff :=
  bif isV s x then (match G.ty t, G.ty tx with
  | some ti, some tix => match ti.kind with
    | .slice e => match G.ty e with
      | some te => match te.zero with
        | some z => match srcV tix H x with
          | some (k, c, m, g) => match appV te H nid s m g with
            | some E => some (.ck (isRes H nid && (elOk te z && k == te.size)) (.ck c E))
            | none => none
          | none => none
        | none => none
      | none => none
    | _ => none
  | _, _ => none) else none

/-- Appends to rows that are told by their numbers. -/
def rowOps (op : Op) (ev : Operand → AV) (H : Heap) (nid : Nat) : Option Eff :=
  match op with
  | .call c => match c.callee with
    | .builtin .append => match c.args.toList, c.argTypes.toList with
      | [s, x], [t, tx] => aRowApp G t tx H nid (ev s) (ev x)
      | _, _ => none
    | _ => none
  | _ => none
end

section
variable {P : Program} {G : Env P} {ρ : Rho} {I : Imm} {H : Heap} {w : World}

theorem all_ok {rows : List AV} (h : (rows.all fun r => okL r.cells) = true) : ∀ i, i < rows.length → okL (rowF rows i) = true := by
  intro i hi
  rw [List.all_eq_true] at h
  have := h rows[i] (List.getElem_mem hi)
  simpa [rowF, hi] using this

theorem one_of_ok {n : Nat} {f : Nat → List AV} (h : ∀ i, i < n → okL (f i) = true) : oneL (rowsL n f) = true := by
  have : ∀ l : List AV, (∀ a ∈ l, oneA a = true) → oneL l = true := by
    intro l
    induction l with
    | nil => intro _; rfl
    | cons a as ih => intro h; simp [oneL, h a (by simp), ih (fun b hb => h b (by simp [hb]))]
  refine this _ fun a ha => ?_
  obtain ⟨i, hi, rfl⟩ := List.mem_map.1 ha
  simpa [oneA] using okL_one (h i (List.mem_range.1 hi))

theorem srcV_sound (c : Conc G.g ρ I H w) {tx : Nat} {tix : TI} (htx : G.ty tx = some tix) {x : AV} {vx : Value} (r : rel ρ I w x vx) {k m : Nat} {p : Bool} {f : Nat → List AV} (h : srcV tix H x = some (k, p, m, f)) (hp : p = true) :
    ∃ vs, RL ρ I w (rowsL m f) vs ∧ (∀ a ∈ rowsL m f, szA a = k) ∧ (∀ i, i < m → okL (f i) = true) ∧ Src P k tx vx m vs w := by
  obtain ⟨j, d, _, q2, _, _, q5, _⟩ := ty_ok htx
  unfold srcV at h
  split at h
  · rename_i e' hk
    rw [hk] at q5
    obtain rfl := TK.of_slice q5
    split at h
    · rename_i full k' rows'
      simp only [Option.some.injEq, Prod.mk.injEq] at h
      obtain ⟨rfl, rfl, rfl, rfl⟩ := h
      obtain ⟨hsz, vs, hr, a, cap, rfl, h2, _, h4⟩ := rel_vec.1 r
      obtain ⟨r1, r2⟩ := RL_rowF hsz hr
      have ho := all_ok hp
      refine ⟨vs, r1, r2, ho, src_of q2 (RL_flat hsz hr) (h4.imp id ?_) (oneL_sound _ _ r1 (one_of_ok ho))⟩
      rintro ⟨b, off, rfl, _, hl⟩
      exact ⟨b, off, rfl, fun i x hx => (hl i x hx).1⟩
    · rename_i full k' n f'
      simp only [Option.some.injEq, Prod.mk.injEq] at h
      obtain ⟨rfl, _, rfl, rfl⟩ := h
      obtain ⟨ho, vs, hvl, hr, a, cap, rfl, h2, _, h4⟩ := rel_vecr.1 r
      obtain ⟨r1, r2⟩ := RL_of_rows hvl hr
      refine ⟨vs, r1, r2, ho, src_of q2 hvl (h4.imp id ?_) (oneL_sound _ _ r1 (one_of_ok ho))⟩
      rintro ⟨b, off, rfl, _, hl⟩
      exact ⟨b, off, rfl, fun i x hx => (hl i x hx).1⟩
    · rename_i ix k' n f'
      simp only [Option.some.injEq, Prod.mk.injEq] at h
      obtain ⟨rfl, _, rfl, rfl⟩ := h
      obtain ⟨ho, vs, hvl, hr, a, cap, rfl, h2, _, h4⟩ := rel_vecr.1 (rel_slv.1 r).1
      obtain ⟨r1, r2⟩ := RL_of_rows hvl hr
      refine ⟨vs, r1, r2, ho, src_of q2 hvl (h4.imp id ?_) (oneL_sound _ _ r1 (one_of_ok ho))⟩
      rintro ⟨b, off, rfl, _, hl⟩
      exact ⟨b, off, rfl, fun i x hx => (hl i x hx).1⟩
    · rename_i ix off k' len
      split at h
      · rename_i k2 rows' fz hid
        simp only [Option.some.injEq, Prod.mk.injEq] at h
        obtain ⟨rfl, rfl, rfl, rfl⟩ := h
        simp only [Bool.and_eq_true, beq_iff_eq] at hp
        obtain ⟨⟨⟨rfl, rfl⟩, rfl⟩, hp⟩ := hp
        obtain ⟨hev, hg⟩ := c.grow ix _ hid rfl
        have hev' : ∀ a ∈ rows', szA a = k' := hev
        have ho := all_ok hp
        rcases rel_sl.1 r with ⟨bl, cap, h1, rfl, h3, h4, h5⟩ | ⟨h0, a, rfl⟩
        · rcases hg with ⟨g1, _⟩ | ⟨b', el, fr, us, rest, g1, g2, g3, g4⟩
          · rw [g1] at h1; simp at h1
          · rw [g1] at h1
            simp only [Option.some.injEq] at h1
            subst h1
            obtain ⟨r1, r2⟩ := RL_rowF hev' g3
            refine ⟨_, r1, r2, ho, src_of q2 (RL_flat hev' g3) (.inr ⟨b', 0, rfl, fun i x hx => ?_⟩) (oneL_sound _ _ r1 (one_of_ok ho))⟩
            rw [Nat.zero_add, cell_of_heap g2, List.getElem?_append_left (List.getElem?_eq_some_iff.1 hx).1]
            exact hx
        · have : rows' = [] := List.eq_nil_of_length_eq_zero h0
          subst this
          exact ⟨[], by simp [rowsL, RL], by simp [rowsL], fun i hi => absurd hi (Nat.not_lt_zero _), by simpa using src_of (w := w) (vs := []) q2 (by simp) (.inl rfl) (by simp)⟩
      · simp at h
    · simp at h
  · simp at h

/-- What an append comes to, with what is written no more from now on. -/
def AppOk' (P : Program) (g : Nat → Option (List AV)) (ρ : Rho) (I : Imm) (H : Heap) (w : World) (t tx ty : Nat) (vs vx : Value) (v : AV) (u : List (Nat × Ent)) : Prop :=
  ∃ v' w' ρ' I', (Builtin.append_ #[t, tx] ty #[vs, vx]).run P w = .ok v' w' ∧ Good ρ I H w ρ' I' (updH H u) w' ∧ Conc g ρ' I' (updH H u) w' ∧ Mono ρ I w ρ' I' w' ∧ rel ρ' I' w' v v'

/-- Onto nothing: new rows. -/
theorem appV_new (c : Conc G.g ρ I H w) {nid : Nat} (hn : H[nid]? = some .res) {t tx ty e : Nat} {te : TI} (ht : P.underlying t = some (.slice e)) (hte : G.ty e = some te) {z : AV} (hz : te.zero = some z) (hok : elOk te z = true)
    {vs vx : Value} (hv : vecR I w true 0 [] vs) {m : Nat} {f : Nat → List AV} {news : List Value} (hr : RL ρ I w (rowsL m f) news) (hk : ∀ a ∈ rowsL m f, szA a = te.size) (ho : ∀ i, i < m → okL (f i) = true) (hs : Src P te.size tx vx m news w)
    (hb : m * te.bytes ≤ 140737488355328) : AppOk' P G.g ρ I H w t tx ty vs vx (.slv nid te.size m f) [(nid, .tail te.size m)] := by
  obtain ⟨j, zv, hj, hjs, hjb, hb0, hs0, hjz, hzs, _, _⟩ := el_info hte hz hok
  have hlt : nid < H.length := (List.getElem?_eq_some_iff.1 hn).1
  obtain ⟨v', w', ρ', k1, k2, k3, k4, k5⟩ := app_vec (ty := ty) (ent := .grow te.size (rowsL m f) []) (n := m) c hn ht hj hjz hzs hb0 hv rfl (by simp) (by rw [hjs]; exact hs) (by rw [hjb]; simpa using hb) rfl hk (by simpa [Ent.cells] using hr) (.inr rfl)
  rw [hjs, Nat.zero_add] at k5
  have hid : (updH H [(nid, Ent.grow te.size (rowsL m f) [])])[nid]? = some (.grow te.size (rowsL m f) []) := by simp [updH, hlt]
  obtain ⟨I', t1, t2, t3, t4⟩ := tailed k3 hid (fun o h => by obtain ⟨_, h, _⟩ := h; simp at h) (elOk_spec hok).2.2.2 ho (rel_sl.1 k5) k2 (fun o b _ h => by obtain ⟨_, h, _⟩ := h; simp at h)
  have hset : (updH H [(nid, Ent.grow te.size (rowsL m f) [])]).set nid (.tail te.size m) = updH H [(nid, .tail te.size m)] := by simp [updH, List.set_set]
  rw [hset] at t1 t2
  exact ⟨v', w', ρ', I', k1, t1, t2, k4.trans' t3, t4⟩

theorem appV_sound (c : Conc G.g ρ I H w) {nid : Nat} (hn : H[nid]? = some .res) {t tx ty e : Nat} {te : TI} (ht : P.underlying t = some (.slice e)) (hte : G.ty e = some te) {z : AV} (hz : te.zero = some z) (hok : elOk te z = true) {s : AV} {vs vx : Value} (r : rel ρ I w s vs)
    {m : Nat} {f : Nat → List AV} {news : List Value} (hr : RL ρ I w (rowsL m f) news) (hk : ∀ a ∈ rowsL m f, szA a = te.size) (ho : ∀ i, i < m → okL (f i) = true) (hs : Src P te.size tx vx m news w)
    {E : Eff} {v : AV} {u : List (Nat × Ent)} (h : appV te H nid s m f = some E) (hh : E.has v u) : AppOk' P G.g ρ I H w t tx ty vs vx v u := by
  unfold appV at h
  split at h
  · rename_i full k l
    simp only [Option.some.injEq] at h
    subst h
    obtain ⟨hc, hle, _, rfl, rfl⟩ := hh
    simp only [Bool.and_eq_true, beq_iff_eq, List.isEmpty_iff] at hc
    obtain ⟨⟨rfl, rfl⟩, rfl⟩ := hc
    obtain ⟨_, ws, hw, hv⟩ := rel_vec.1 r
    cases hw
    exact appV_new c hn ht hte hz hok hv hr hk ho hs (leB_iff.1 hle)
  · rename_i full l
    simp only [Option.some.injEq] at h
    subst h
    obtain ⟨hc, hle, _, rfl, rfl⟩ := hh
    simp only [Bool.and_eq_true, List.isEmpty_iff] at hc
    obtain ⟨rfl, rfl⟩ := hc
    exact appV_new c hn ht hte hz hok (rel_vec8.1 r) hr hk ho hs (leB_iff.1 hle)
  · rename_i id k n f0
    split at h
    · rename_i k' n' hid
      simp only [Option.some.injEq] at h
      subst h
      obtain ⟨hc, hnn, hle, _, rfl, rfl⟩ := hh
      simp only [Bool.and_eq_true, beq_iff_eq] at hc hnn
      obtain ⟨rfl, rfl⟩ := hc
      subst hnn
      obtain ⟨j, zv, hj, hjs, hjb, hb0, hs0, hjz, hzs, _, _⟩ := el_info hte hz hok
      have hlt : nid < H.length := (List.getElem?_eq_some_iff.1 hn).1
      have hlt' : id < H.length := (List.getElem?_eq_some_iff.1 hid).1
      have hne : id ≠ nid := by rintro rfl; rw [hid] at hn; simp at hn
      obtain ⟨g1, c1, hI⟩ := untail c hid r
      obtain ⟨rv, rs⟩ := rel_slv.1 r
      have hid1 : (H.set id (.grow te.size (rowsL n f0) [(0, n * te.size)]))[id]? = some (.grow te.size (rowsL n f0) [(0, n * te.size)]) := by simp [hlt']
      have hn1 : (H.set id (.grow te.size (rowsL n f0) [(0, n * te.size)]))[nid]? = some .res := by rw [List.getElem?_set_ne hne]; exact hn
      obtain ⟨hev0, _⟩ := c1.grow id _ hid1 rfl
      have hev0 : ∀ a ∈ rowsL n f0, szA a = te.size := hev0
      have hcat := rowsL_cat n m f0 f
      obtain ⟨v', w', ρ', k1, k2, k3, k4, k5, k6⟩ := append_own (ty := ty) (len := n) (n := m) (e0 := .grow te.size (rowsL n f0) [(0, n * te.size)]) (ent := .grow te.size (rowsL (n + m) (catF n f0 f)) [(0, n * te.size)]) c1 hn1 hid1 rfl ht hj hjz hzs hb0 (by rw [hjs]; exact rs)
        (by
          show szL (rowsL n f0) = n * j.size
          rw [hjs]
          have : ∀ l : List AV, (∀ a ∈ l, szA a = te.size) → szL l = l.length * te.size := by
            intro l
            induction l with
            | nil => intro _; simp [szL]
            | cons a as ih => intro h; rw [szL, h a (by simp), ih (fun b hb => h b (by simp [hb])), List.length_cons, Nat.add_mul, Nat.one_mul, Nat.add_comm]
          rw [this _ hev0, rowsL_len])
        (by rw [hjs]; exact hs) (by rw [hjb]; exact leB_iff.1 hle) rfl (by
          show ∀ a ∈ rowsL (n + m) (catF n f0 f), szA a = te.size
          rw [hcat]
          exact fun a ha => (List.mem_append.1 ha).elim (hev0 a) (hk a)) rfl (by
          intro cs hcs
          show RL ρ I w (rowsL (n + m) (catF n f0 f)) _
          rw [hcat]
          rcases hcs with hcs | ⟨h0, rfl⟩
          · exact RL_append hcs hr
          · subst h0
            simpa [rowsL] using hr) (by
          rintro o ⟨r0, h1, _, h2⟩
          simp only [Ent.frz, List.mem_singleton] at h1
          subst h1
          rw [hjs]
          exact h2)
      rw [hjs] at k5
      have hset1 : ∀ e1, updH (H.set id (.grow te.size (rowsL n f0) [(0, n * te.size)])) [(nid, e1), (id, .dead)] = updH H [(nid, e1), (id, .dead)] := by
        intro e1
        show ((H.set id _).set nid e1).set id .dead = (H.set nid e1).set id .dead
        rw [List.set_comm _ _ hne, List.set_set]
      rw [hset1] at k2 k3
      have hid2 : (updH H [(nid, Ent.grow te.size (rowsL (n + m) (catF n f0 f)) [(0, n * te.size)]), (id, .dead)])[nid]? = some (.grow te.size (rowsL (n + m) (catF n f0 f)) [(0, n * te.size)]) := by
        show ((H.set nid _).set id .dead)[nid]? = _
        rw [List.getElem?_set_ne hne]
        simp [hlt]
      obtain ⟨hof, _⟩ := rel_vecr.1 rv
      obtain ⟨I', t1, t2, t3, t4⟩ := tailed k3 hid2 (fun o h => by
        obtain ⟨r0, h1, _, h2⟩ := h
        simp only [List.mem_singleton] at h1
        subst h1
        have : n * te.size ≤ (n + m) * te.size := Nat.mul_le_mul_right _ (by omega)
        simp only at h2
        omega) (elOk_spec hok).2.2.2 (fun i hi => by
          unfold catF
          cases hb : ltB i n with
          | true => exact hof i (ltB_iff.1 hb)
          | false =>
            have : ¬ i < n := fun h => by rw [ltB_iff.2 h] at hb; simp at hb
            exact ho (i - n) (by omega)) (rel_sl.1 k5) (g1.trans k2) (fun o b hb h => by
          obtain ⟨r0, h1, _, h2⟩ := h
          simp only [List.mem_singleton] at h1
          subst h1
          rcases k6 b hb with h | h
          · exact .inl (hI o b h h2)
          · exact .inr h)
      have hset2 : (updH H [(nid, Ent.grow te.size (rowsL (n + m) (catF n f0 f)) [(0, n * te.size)]), (id, .dead)]).set nid (.tail te.size (n + m)) = updH H [(nid, .tail te.size (n + m)), (id, .dead)] := by
        show ((H.set nid _).set id .dead).set nid _ = (H.set nid _).set id .dead
        rw [List.set_comm _ _ hne, List.set_set]
      rw [hset2] at t1 t2
      exact ⟨v', w', ρ', I', k1, t1, t2, k4.trans' t3, t4⟩
    · simp at h
  · simp at h

theorem aRowApp_sound (c : Conc G.g ρ I H w) {t tx ty nid : Nat} {s x : AV} {vs vx : Value} (rs : rel ρ I w s vs) (rx : rel ρ I w x vx) {E : Eff} {v : AV} {u : List (Nat × Ent)} (h : aRowApp G t tx H nid s x = some E) (hh : E.has v u) : AppOk' P G.g ρ I H w t tx ty vs vx v u := by
  unfold aRowApp at h
  cases hv : isV s x with
  | false => rw [hv] at h; simp at h
  | true =>
  rw [hv] at h
  simp only [cond_true] at h
  split at h
  · rename_i ti tix hti htix
    obtain ⟨j, d, _, q2, _, _, q5, _⟩ := ty_ok hti
    split at h
    · rename_i e hk
      rw [hk] at q5
      obtain rfl := TK.of_slice q5
      split at h
      · rename_i te hte
        split at h
        · rename_i z hz
          split at h
          · rename_i k p m f hsrc
            split at h
            · rename_i E' hE
              simp only [Option.some.injEq] at h
              subst h
              obtain ⟨h1, h2, h3⟩ := hh
              simp only [Bool.and_eq_true, beq_iff_eq] at h1
              obtain ⟨h1, h4, rfl⟩ := h1
              obtain ⟨ws, r1, r2, r3, r4⟩ := srcV_sound c htix rx hsrc h2
              exact appV_sound c (isRes_get h1) q2 hte hz h4 rs r1 r2 r3 r4 hE h3
            · simp at h
          · simp at h
        · simp at h
      · simp at h
    · simp at h
  · simp at h

theorem rowOps_sound (c : Conc G.g ρ I H w) (ev : Operand → AV) (e : Operand → Value) (r : ∀ x, rel ρ I w (ev x) (e x)) (o : Oper) (nid : Nat) (E : Eff) (v : AV) (u : List (Nat × Ent)) (h : rowOps G o.op ev H nid = some E) (hh : E.has v u) :
    EffOk G ρ I H w ((execOp e o).run P w) v u := by
  unfold rowOps at h
  split at h
  · rename_i cl hop
    split at h
    · rename_i hfo
      split at h
      · rename_i s x t tx ha ht
        have hargs : cl.args.map e = #[e s, e x] := by
          apply Array.toList_inj.1
          simp [ha]
        have hat : cl.argTypes = #[t, tx] := by
          apply Array.toList_inj.1
          simp [ht]
        refine EffOk.of_fin (s := Builtin.append_ #[t, tx] o.type #[e s, e x]) (fun y w' h => ?_) (aRowApp_sound c (r s) (r x) h hh)
        rw [run_call_builtin hop hfo, hargs, hat]
        simp [builtin, h]
      · simp at h
    · simp at h
  · simp at h

theorem srcV_congr {tix : TI} {x : AV} {H' : Heap} (hr : ∀ id ∈ refId x, H'[id]? = H[id]?) : srcV tix H' x = srcV tix H x := by
  cases x <;> simp only [refId, List.mem_singleton, forall_eq] at hr <;> simp [srcV, hr]
theorem appV_congr {te : TI} {nid : Nat} {s : AV} {m : Nat} {f : Nat → List AV} {H' : Heap} (hr : ∀ id ∈ refId s, H'[id]? = H[id]?) : appV te H' nid s m f = appV te H nid s m f := by
  cases s <;> simp only [refId, List.mem_singleton, forall_eq] at hr <;> simp [appV, hr]
theorem aRowApp_congr {t tx nid : Nat} {s x : AV} {H' : Heap} (h0 : H'[nid]? = H[nid]?) (h1 : ∀ id ∈ refId s, H'[id]? = H[id]?) (h2 : ∀ id ∈ refId x, H'[id]? = H[id]?) : aRowApp G t tx H' nid s x = aRowApp G t tx H nid s x := by
  simp only [aRowApp, srcV_congr h2, appV_congr h1, isRes_congr h0]
theorem rowOps_congr (op : Op) (ev ev' : Operand → AV) (H H' : Heap) (nid : Nat) (he : ∀ x ∈ op.operands, ev' x = ev x) (hr : ∀ id ∈ readsE ev op nid (slots G op), H'[id]? = H[id]?) : rowOps G op ev' H' nid = rowOps G op ev H nid := by
  cases op with
  | call c =>
    have hm : ∀ x ∈ c.args.toList, ev' x = ev x ∧ ∀ id ∈ refId (ev x), H'[id]? = H[id]? := fun x hx =>
      have hx' : x ∈ (Op.call c).operands.toList := by simp [Op.operands, Call.operands]; right; simpa using hx
      ⟨he x (by simpa using hx'), fun id hid => hr id (by simp only [readsE]; exact List.mem_append_left _ (mem_refIds hx' hid))⟩
    simp only [rowOps]
    split
    · rename_i hfo
      have h0 : H'[nid]? = H[nid]? := hr nid (by simp [readsE, slots, upTo, hfo])
      split
      · rename_i s x t tx ha ht
        obtain ⟨e1, r1⟩ := hm s (by rw [ha]; simp)
        obtain ⟨e2, r2⟩ := hm x (by rw [ha]; simp)
        rw [e1, e2, aRowApp_congr h0 r1 r2]
      · rfl
    · rfl
  | _ => rfl
end

/-! Parts of new rows: what they point into is written no more. -/

/-- What is written no more from now on of an entry's block. -/
def frzI (ρ : Rho) (I : Imm) (id : Nat) (r : Nat × Nat) : Imm := fun x o => I x o ∨ (ρ id = some (some x) ∧ r.1 ≤ o ∧ o < r.2)

section
variable {g : Nat → Option (List AV)} {ρ : Rho} {I : Imm} {H : Heap} {w : World}
theorem freeze_any (c : Conc g ρ I H w) {id : Nat} {e : Ent} (hid : H[id]? = some e) (hl : e.live = true) (r : Nat × Nat) (hf : ∀ o, r.1 ≤ o → o < r.2 → ¬ inFrz e.frz o) (hnt : ∀ k n, e ≠ .tail k n) :
    Good ρ I H w ρ (frzI ρ I id r) (H.set id (e.freeze r)) w ∧ Conc g ρ (frzI ρ I id r) (H.set id (e.freeze r)) w ∧ Mono ρ I w ρ (frzI ρ I id r) w := by
  have hfl : (e.freeze r).live = true := by cases e <;> simp_all [Ent.freeze, Ent.live]
  have hfz : (e.freeze r).frz = r :: e.frz := by cases e <;> simp_all [Ent.freeze, Ent.live, Ent.frz]
  have hfg : (e.freeze r).grows = e.grows := by cases e <;> rfl
  have hfc : (e.freeze r).cells = e.cells := by cases e <;> rfl
  have live : ∀ (k : Nat) (e3 : Ent), (H.set id (e.freeze r))[k]? = some e3 → e3.live = true → ∃ e4 : Ent, H[k]? = some e4 ∧ e4.live = true ∧ (∀ o, inFrz e4.frz o → inFrz e3.frz o) := by
    intro k e3 hk l3
    rcases set_cases hk with ⟨rfl, rfl⟩ | ⟨_, h⟩
    · exact ⟨e, hid, hl, fun o ⟨r', h1, h2⟩ => by rw [hfz]; exact ⟨r', by simp [h1], h2⟩⟩
    · exact ⟨e3, h, l3, fun _ h => h⟩
  have mutb : ∀ x o, Mut ρ (H.set id (e.freeze r)) x o → Mut ρ H x o := by
    rintro x o ⟨k, e3, h1, h2, h3, h4⟩
    obtain ⟨e4, k1, k2, k3⟩ := live k e3 h1 h2
    exact ⟨k, e4, k1, k2, h3, fun h => h4 (k3 o h)⟩
  have hm : ∀ x o, r.1 ≤ o → o < r.2 → ρ id = some (some x) → Mut ρ H x o := fun x o h1 h2 hb => ⟨id, e, hid, hl, hb, hf o h1 h2⟩
  have m : Mono ρ I w ρ (frzI ρ I id r) w := ⟨fun _ _ h => h, fun _ _ h => ⟨.inl h, rfl⟩, fun _ h => ⟨h, rfl⟩⟩
  refine ⟨⟨fun _ _ h => h, ?_, by simp, fun _ _ h => .inl h, ?_, rfl, rfl, rfl, Nat.le_refl _, fun _ _ _ _ => rfl, fun _ _ _ => rfl, fun _ _ => rfl, fun x o _ h => mutb x o h, ?_⟩, ⟨fun i h => by simpa using c.dom i h, ?_, c.blt, ?_, ?_, ?_, ?_, ?_⟩, m⟩
  · rintro i x _ ⟨e1, h1, h2⟩
    rcases set_cases h1 with ⟨rfl, rfl⟩ | ⟨_, h⟩
    · exact ⟨e, hid, by rwa [hfg] at h2⟩
    · exact ⟨e1, h, h2⟩
  · rintro x o _ (h | ⟨hx, h1, h2⟩)
    · exact .inl h
    · exact .inr (hm x o h1 h2 hx)
  · rintro x _ ⟨k, e3, h1, h2, h3⟩
    obtain ⟨e4, k1, k2, _⟩ := live k e3 h1 h2
    exact ⟨k, e4, k1, k2, h3⟩
  · intro i h
    rcases set_cases h with ⟨rfl, h'⟩ | ⟨_, h⟩
    · rw [← h'] at hfl; simp [Ent.live] at hfl
    · exact c.res i h
  · intro i j x e1 e2 hi l1 hj l2 r1 r2
    obtain ⟨e3, k1, k2, _⟩ := live i e1 hi l1
    obtain ⟨e4, k3, k4, _⟩ := live j e2 hj l2
    exact c.inj i j x e3 e4 k1 k2 k3 k4 r1 r2
  · intro i cs f h
    rcases set_cases h with ⟨rfl, h'⟩ | ⟨_, h⟩
    · cases e <;> simp only [Ent.freeze, Ent.blk.injEq, reduceCtorEq] at h'
      obtain ⟨rfl, _⟩ := h'
      obtain ⟨b1, el1, fr1, us, k1, k2, k3, k4⟩ := c.blk i _ _ hid
      exact ⟨b1, el1, fr1, us, k1, k2, RL_mono m _ _ k3, k4⟩
    · obtain ⟨b1, el1, fr1, us, k1, k2, k3, k4⟩ := c.blk i cs f h
      exact ⟨b1, el1, fr1, us, k1, k2, RL_mono m _ _ k3, k4⟩
  · intro i e1 h hg1
    have fin : ∀ e2 : Ent, H[i]? = some e2 → e2.grows = true → e2.cells = e1.cells → (e2.even → e1.even) → e1.even ∧ ((ρ i = some none ∧ szL e1.cells = 0) ∨ ∃ b' el fr cs rest, ρ i = some (some b') ∧ w.heap[b']? = some (.cells (List.toArray (cs ++ rest)) el fr) ∧ RL ρ (frzI ρ I id r) w e1.cells cs ∧ clear fr (cs ++ rest).length) := by
      intro e2 h2 g2 hc hev
      obtain ⟨k0, k⟩ := c.grow i e2 h2 g2
      rw [hc] at k
      refine ⟨hev k0, ?_⟩
      rcases k with k | ⟨b1, el1, fr1, us, rest, k1, k2, k3, k4⟩
      · exact .inl k
      · exact .inr ⟨b1, el1, fr1, us, rest, k1, k2, RL_mono m _ _ k3, k4⟩
    rcases set_cases h with ⟨rfl, rfl⟩ | ⟨_, h⟩
    · exact fin e hid (by rwa [hfg] at hg1) hfc.symm (fun h => by cases e <;> simp_all [Ent.freeze, Ent.even])
    · exact fin e1 h hg1 rfl (fun h => h)
  · rintro x o (hx | ⟨hb, h1, h2⟩)
    · obtain ⟨k1, k2⟩ := c.imm x o hx
      exact ⟨k1, fun h => k2 (mutb x o h)⟩
    · refine ⟨c.blt id x hb, ?_⟩
      rintro ⟨k, e3, k1, k2, k3, k4⟩
      rcases set_cases k1 with ⟨rfl, rfl⟩ | ⟨hne, h⟩
      · exact k4 (by rw [hfz]; exact ⟨r, by simp, h1, h2⟩)
      · exact hne (c.inj k id x e3 e h k2 hid hl k3 hb)
  · intro gl cs h
    obtain ⟨us, k1, k2⟩ := c.glob gl cs h
    exact ⟨us, GL_mono m k1, k2.mono m.imm⟩
end

mutual
/-- A value of a part: what it points into is written no more; which entries turn. -/
def frzA (H : Heap) : AV → AV × List (Nat × Ent)
  | .sl id off k len => match H[id]? with
    | some (.grow8 l f) => bif frzFree f off len && (k == 1 && leB (off + len) l.length) then (.vec8 false ((l.drop off).take len), [(id, .grow8 l ((off, off + len) :: f))]) else (.sl id off k len, [])
    | some (.grow k' rows f) => bif frzFree f 0 (len * k) && ((k == k' && off == 0) && len == rows.length) then (.vec false k rows, [(id, .grow k' rows ((0, len * k) :: f))]) else (.sl id off k len, [])
    | some (.blk c f) => match content8 H (.sl id off k len) with
      | some (p, l) => bif frzFree f off len && p then (.vec8 false l, [(id, .blk c ((off, off + len) :: f))]) else (.sl id off k len, [])
      | none => (.sl id off k len, [])
    | _ => (.sl id off k len, [])
  | .slv _ k n f => (.vecr false k n f, [])
  | .agg l => match frzL H l with
    | (l', u) => (.agg l', u)
  | a => (a, [])
def frzL (H : Heap) : List AV → List AV × List (Nat × Ent)
  | [] => ([], [])
  | a :: as => match frzA H a with
    | (a', u) => match frzL (updH H u) as with
      | (as', u') => (a' :: as', u ++ u')
end

section
variable {g : Nat → Option (List AV)} {ρ : Rho} {I : Imm} {H : Heap} {w : World}

/-- What a frozen part comes to. -/
def FrzOk (g : Nat → Option (List AV)) (ρ : Rho) (I : Imm) (H : Heap) (w : World) (u : List (Nat × Ent)) (ok : Imm → Prop) : Prop :=
  ∃ I', Good ρ I H w ρ I' (updH H u) w ∧ Conc g ρ I' (updH H u) w ∧ Mono ρ I w ρ I' w ∧ ok I'

theorem FrzOk.none (c : Conc g ρ I H w) {ok : Imm → Prop} (h : ok I) : FrzOk g ρ I H w [] ok := ⟨I, Good.refl _ _ _ _, c, Mono.refl', h⟩

theorem frz_out {f : List (Nat × Nat)} {off n : Nat} (h : frzFree f off n = true) : ∀ o, off ≤ o → o < off + n → ¬ inFrz f o := by
  rintro o h1 h2 ⟨r, h3, h4, h5⟩
  rcases frzFree_iff h r h3 with h | h <;> omega

theorem frz_sl8 (c : Conc g ρ I H w) {id off len : Nat} {l : List UInt8} {f : List (Nat × Nat)} (hid : H[id]? = some (.grow8 l f)) (hf : frzFree f off len = true) (hle : off + len ≤ l.length) :
    FrzOk g ρ I H w [(id, .grow8 l ((off, off + len) :: f))] fun I' => ∀ v, slR ρ w id off 1 len v → vecR I' w false ((l.drop off).take len).length (v8 ((l.drop off).take len)) v := by
  obtain ⟨f1, f2, f3⟩ := freeze_any c hid rfl (off, off + len) (frz_out hf) (fun _ _ h => by simp at h)
  refine ⟨_, f1, f2, f3, fun v hv => ?_⟩
  have hlen : ((l.drop off).take len).length = len := by rw [List.length_take, List.length_drop]; omega
  rw [hlen]
  rcases hv with ⟨b, cap, h1, rfl, h2, h3, h4⟩ | ⟨rfl, a, rfl⟩
  · refine ⟨_, cap, rfl, h2, by simp, .inr ⟨b, off, rfl, h3, fun i x hx => ?_⟩⟩
    obtain ⟨_, hg⟩ := c.grow id _ hid rfl
    rcases hg with ⟨g1, _⟩ | ⟨b', el, fr, us, rest, g1, g2, g3, g4⟩
    · rw [g1] at h1; simp at h1
    · rw [g1] at h1
      simp only [Option.some.injEq] at h1
      subst h1
      obtain ⟨ys, zs, rfl, ⟨rfl, _⟩, h6⟩ := RL_cons.1 g3
      cases h6
      rw [List.append_nil] at g2
      have hi : i < len := by
        have := (List.getElem?_eq_some_iff.1 hx).1
        rwa [length_v8, hlen] at this
      refine ⟨?_, .inr ⟨g1, by simp only []; omega, by simp only []; omega⟩⟩
      rw [cell_of_heap g2, List.getElem?_append_left (by rw [length_v8]; omega)]
      rw [← hx, ← v8_take, ← v8_drop, List.getElem?_take, if_pos hi, List.getElem?_drop]
  · exact ⟨a, 0, rfl, Nat.le_refl _, by simp, .inl rfl⟩

theorem frz_slr (c : Conc g ρ I H w) {id k len : Nat} {rows : List AV} {f : List (Nat × Nat)} (hid : H[id]? = some (.grow k rows f)) (hf : frzFree f 0 (len * k) = true) (hle : len = rows.length) :
    FrzOk g ρ I H w [(id, .grow k rows ((0, len * k) :: f))] fun I' => ∀ v, slR ρ w id 0 k len v → (∀ a ∈ rows, szA a = k) ∧ ∃ vs, RL ρ I' w rows vs ∧ vecR I' w false rows.length vs v := by
  obtain ⟨f1, f2, f3⟩ := freeze_any c hid rfl (0, len * k) (fun o h1 h2 => frz_out hf o h1 (by simp only [Nat.zero_add]; exact h2)) (fun _ _ h => by simp at h)
  refine ⟨_, f1, f2, f3, fun v hv => ?_⟩
  obtain ⟨hev, hg⟩ := c.grow id _ hid rfl
  have hev : ∀ a ∈ rows, szA a = k := hev
  refine ⟨hev, ?_⟩
  subst hle
  rcases hv with ⟨b, cap, h1, rfl, h2, h3, h4⟩ | ⟨h0, a, rfl⟩
  · rcases hg with ⟨g1, _⟩ | ⟨b', el, fr, us, rest, g1, g2, g3, g4⟩
    · rw [g1] at h1; simp at h1
    · rw [g1] at h1
      simp only [Option.some.injEq] at h1
      subst h1
      refine ⟨us, RL_mono f3 _ _ g3, _, cap, rfl, h2, by simp, .inr ⟨b', 0, rfl, h3, fun i x hx => ?_⟩⟩
      have hi := (List.getElem?_eq_some_iff.1 hx).1
      refine ⟨?_, .inr ⟨g1, Nat.zero_le _, ?_⟩⟩
      · rw [Nat.zero_add, cell_of_heap g2, List.getElem?_append_left hi]
        exact hx
      · simp only [Nat.zero_add]
        rw [← RL_flat hev g3]; exact hi
  · have : rows = [] := List.eq_nil_of_length_eq_zero h0
    subst this
    exact ⟨[], rfl, a, 0, rfl, Nat.le_refl _, by simp, .inl rfl⟩

theorem frz_slb (c : Conc g ρ I H w) {id off k len : Nat} {cs : List AV} {l : List UInt8} {f : List (Nat × Nat)} (hid : H[id]? = some (.blk cs f)) (hf : frzFree f off len = true) (h8 : content8 H (.sl id off k len) = some (true, l)) :
    FrzOk g ρ I H w [(id, .blk cs ((off, off + len) :: f))] fun I' => ∀ v, slR ρ w id off k len v → vecR I' w false l.length (v8 l) v := by
  obtain ⟨f1, f2, f3⟩ := freeze_any c hid rfl (off, off + len) (frz_out hf) (fun _ _ h => by simp at h)
  refine ⟨_, f1, f2, f3, fun v hv => ?_⟩
  obtain ⟨x, cap, rfl, hc⟩ := content8_sound c h8 rfl (rel_sl.2 hv)
  rcases hv with ⟨b, cap', h1, h2, h3, h4, h5⟩ | ⟨h0, a, h2⟩
  · simp only [Value.slice.injEq] at h2
    obtain ⟨rfl, hl, rfl⟩ := h2
    refine ⟨_, cap, rfl, by omega, by simp, ?_⟩
    rcases hc with rfl | ⟨b', off', e, hcell⟩
    · exact .inl rfl
    · simp only [Option.some.injEq, Addr.mk.injEq] at e
      obtain ⟨rfl, rfl, _⟩ := e
      refine .inr ⟨b, off, rfl, h4, fun i y hy => ⟨hcell i y hy, .inr ⟨h1, ?_, ?_⟩⟩⟩
      · simp only []; omega
      · have := (List.getElem?_eq_some_iff.1 hy).1
        rw [length_v8] at this
        simp only []
        omega
  · simp only [Value.slice.injEq] at h2
    obtain ⟨rfl, hl, rfl⟩ := h2
    exact ⟨_, 0, rfl, by omega, by simp, .inl hl⟩

theorem rel_of_R {a : AV} {I' : Imm} {a' : AV} (hag : isAg a' = isAg a) (h : ∀ xs, R ρ I w a xs → R ρ I' w a' xs) {v : Value} (hv : rel ρ I w a v) : rel ρ I' w a' v := by
  unfold rel at *
  cases a <;> cases a' <;> simp only [isAg, Bool.false_eq_true, reduceCtorEq] at hag <;> simp only [valOf] at hv ⊢ <;> first | trivial | exact h _ hv | exact h _ ⟨_, rfl⟩ | (obtain ⟨cs, h1, h2⟩ := hv; exact ⟨cs, h1, h _ h2⟩)
end

theorem frzA_ag (H : Heap) (a : AV) : isAg (frzA H a).1 = isAg a := by
  cases a <;> simp only [frzA] <;> try rfl
  split
  · rename_i l f _
    cases frzFree f _ _ && _ <;> rfl
  · rename_i k' rows f _
    cases frzFree f _ _ && _ <;> rfl
  · rename_i f _
    split
    · rename_i p l _
      cases frzFree f _ _ && _ <;> rfl
    · rfl
  · rfl

section
variable {g : Nat → Option (List AV)} {ρ : Rho} {w : World}
mutual
theorem frzA_sound : ∀ (a : AV) (I : Imm) (H : Heap), Conc g ρ I H w → FrzOk g ρ I H w (frzA H a).2 fun I' => ∀ xs, R ρ I w a xs → R ρ I' w (frzA H a).1 xs
  | .sl id off k len, I, H, c => by
    unfold frzA
    split
    · rename_i l f hid
      cases hc : frzFree f off len && (k == 1 && leB (off + len) l.length) with
      | true =>
        simp only [Bool.and_eq_true, beq_iff_eq] at hc
        obtain ⟨hfr, rfl, hle⟩ := hc
        obtain ⟨I', f1, f2, f3, f4⟩ := frz_sl8 c hid hfr (leB_iff.1 hle)
        refine ⟨I', f1, f2, f3, ?_⟩
        rintro xs ⟨v, rfl, hv⟩
        exact ⟨v, rfl, f4 v hv⟩
      | false => exact FrzOk.none c fun xs h => h
    · rename_i k' rows f hid
      cases hc : frzFree f 0 (len * k) && ((k == k' && off == 0) && len == rows.length) with
      | true =>
        simp only [Bool.and_eq_true, beq_iff_eq] at hc
        obtain ⟨hfr, ⟨rfl, rfl⟩, hle⟩ := hc
        obtain ⟨I', f1, f2, f3, f4⟩ := frz_slr c hid hfr hle
        refine ⟨I', f1, f2, f3, ?_⟩
        rintro xs ⟨v, rfl, hv⟩
        exact ⟨v, rfl, f4 v hv⟩
      | false => exact FrzOk.none c fun xs h => h
    · rename_i cs f hid
      split
      · rename_i p l h8
        cases hc : frzFree f off len && p with
        | true =>
          simp only [Bool.and_eq_true] at hc
          obtain ⟨hfr, rfl⟩ := hc
          obtain ⟨I', f1, f2, f3, f4⟩ := frz_slb c hid hfr h8
          refine ⟨I', f1, f2, f3, ?_⟩
          rintro xs ⟨v, rfl, hv⟩
          exact ⟨v, rfl, f4 v hv⟩
        | false => exact FrzOk.none c fun xs h => h
      · exact FrzOk.none c fun xs h => h
    · exact FrzOk.none c fun xs h => h
  | .slv id k n f, I, H, c => FrzOk.none c fun xs ⟨v, h0, h1, ⟨vs, h2, h3, h4⟩, _⟩ => ⟨v, h0, h1, vs, h2, h3, h4⟩
  | .agg l, I, H, c => by
    obtain ⟨I', f1, f2, f3, f4⟩ := frzL_sound l I H c
    exact ⟨I', f1, f2, f3, fun xs h => f4 xs h⟩
  | .any, I, H, c | .raw _, I, H, c | .int _ _, I, H, c | .u8 _, I, H, c | .u32 _, I, H, c | .u64 _, I, H, c | .bool _, I, H, c | .str _, I, H, c | .b8 _ _, I, H, c | .w32 _ _, I, H, c | .w64 _ _, I, H, c | .n64 _ _, I, H, c
  | .ptr _ _, I, H, c | .pix _ _ _ _, I, H, c | .vec8 _ _, I, H, c | .vec _ _ _, I, H, c | .vecr _ _ _ _, I, H, c | .vp _ _, I, H, c | .vpx _ _ _ _, I, H, c | .fn _ _ _, I, H, c | .tup _, I, H, c => FrzOk.none c fun xs h => h
theorem frzL_sound : ∀ (l : List AV) (I : Imm) (H : Heap), Conc g ρ I H w → FrzOk g ρ I H w (frzL H l).2 fun I' => ∀ xs, RL ρ I w l xs → RL ρ I' w (frzL H l).1 xs
  | [], I, H, c => FrzOk.none c fun xs h => h
  | a :: as, I, H, c => by
    obtain ⟨I1, f1, f2, f3, f4⟩ := frzA_sound a I H c
    obtain ⟨I2, g1, g2, g3, g4⟩ := frzL_sound as I1 (updH H (frzA H a).2) f2
    refine ⟨I2, ?_, ?_, f3.trans' g3, ?_⟩
    · show Good ρ I H w ρ I2 (updH H ((frzA H a).2 ++ (frzL (updH H (frzA H a).2) as).2)) w
      rw [updH_append]; exact f1.trans g1
    · show Conc g ρ I2 (updH H ((frzA H a).2 ++ (frzL (updH H (frzA H a).2) as).2)) w
      rw [updH_append]; exact g2
    · rintro xs ⟨ys, zs, rfl, h1, h2⟩
      exact ⟨ys, zs, rfl, R_mono g3 _ _ (f4 ys h1), g4 zs (RL_mono f3 _ _ h2)⟩
end

theorem frzL_rv : ∀ (l : List AV) (I : Imm) (H : Heap), Conc g ρ I H w → FrzOk g ρ I H w (frzL H l).2 fun I' => ∀ vs, RV ρ I w l vs → RV ρ I' w (frzL H l).1 vs
  | [], I, H, c => FrzOk.none c fun xs h => h
  | a :: as, I, H, c => by
    obtain ⟨I1, f1, f2, f3, f4⟩ := frzA_sound a I H c
    obtain ⟨I2, g1, g2, g3, g4⟩ := frzL_rv as I1 (updH H (frzA H a).2) f2
    refine ⟨I2, ?_, ?_, f3.trans' g3, ?_⟩
    · show Good ρ I H w ρ I2 (updH H ((frzA H a).2 ++ (frzL (updH H (frzA H a).2) as).2)) w
      rw [updH_append]; exact f1.trans g1
    · show Conc g ρ I2 (updH H ((frzA H a).2 ++ (frzL (updH H (frzA H a).2) as).2)) w
      rw [updH_append]; exact g2
    · intro vs h
      obtain ⟨x, xs, rfl, h1, h2⟩ := RV_cons.1 h
      exact RV_cons.2 ⟨x, xs, rfl, rel_mono g3 (rel_of_R (frzA_ag H a) f4 h1), g4 xs (RV_mono f3 _ _ h2)⟩
end

section
variable {P : Program} (G : Env P)
/-- New rows: what their parts point into is written no more. -/
def frzBuild (op : Op) (ev : Operand → AV) (H : Heap) (nid : Nat) : Option Eff :=
  match op with
  | .buildSlice t len parts => match frzL H (parts.toList.map fun p => ev p.2) with
    | (vs, u) => match aBuildS G t len (updH H u) nid ((parts.toList.map fun p => p.1).zip vs) with
      | some E => some (E.pre u)
      | none => none
  | _ => none
end

theorem frzL_len (H : Heap) : ∀ (l : List AV), (frzL H l).1.length = l.length := by
  intro l
  induction l generalizing H with
  | nil => rfl
  | cons a as ih => simp only [frzL, List.length_cons, ih]

section
variable {P : Program} {G : Env P} {ρ : Rho} {I : Imm} {H : Heap} {w : World}
theorem frzBuild_run (c : Conc G.g ρ I H w) {ev : Operand → AV} {e : Operand → Value} (r : ∀ x, rel ρ I w (ev x) (e x)) {t len nid : Nat} {parts : Array (Nat × Operand)} {vs : List AV} {u0 u1 : List (Nat × Ent)} {E : Eff} {v : AV}
    (hf : frzL H (parts.toList.map fun p => ev p.2) = (vs, u0)) (hE : aBuildS G t len (updH H u0) nid ((parts.toList.map fun p => p.1).zip vs) = some E) (hh : E.has v u1) :
    ∃ v' w' ρ' I', (Instr.buildSlice t len (parts.map fun p => (p.1, e p.2))).run P w = .ok v' w' ∧ Good ρ I H w ρ' I' (updH H (u0 ++ u1)) w' ∧ Conc G.g ρ' I' (updH H (u0 ++ u1)) w' ∧ Mono ρ I w ρ' I' w' ∧ rel ρ' I' w' v v' := by
  obtain ⟨I1, f1, f2, f3, f4⟩ := frzL_rv (g := G.g) (ρ := ρ) (w := w) (parts.toList.map fun p => ev p.2) I H c
  have hlen := frzL_len H (parts.toList.map fun p => ev p.2)
  rw [hf] at f1 f2 f4 hlen
  simp only [List.length_map] at hlen
  have hrv : RV ρ I w (parts.toList.map fun p => ev p.2) (parts.toList.map fun p => e p.2) := by
    refine RV_iff.2 ⟨by simp, fun i a x ha hx => ?_⟩
    rw [List.getElem?_map] at ha hx
    cases hp : parts.toList[i]? with
    | none => simp [hp] at ha
    | some p =>
      simp only [hp, Option.map_some, Option.some.injEq] at ha hx
      subst ha; subst hx
      exact r p.2
  have h2 := f4 _ hrv
  have hvp : (parts.map fun p => (p.1, e p.2)).toList = parts.toList.map fun p => (p.1, e p.2) := by simp
  have hi : ((parts.toList.map fun p => p.1).zip vs).map (·.1) = (parts.map fun p => (p.1, e p.2)).toList.map (·.1) := by
    rw [hvp, List.map_map, List.map_fst_zip (by simp [hlen])]
    rfl
  have hr : RV ρ I1 w (((parts.toList.map fun p => p.1).zip vs).map (·.2)) ((parts.map fun p => (p.1, e p.2)).toList.map (·.2)) := by
    rw [hvp, List.map_map, List.map_snd_zip (by simp [hlen])]
    exact h2
  obtain ⟨v', w', ρ', k1, k2, k3, k4, k5⟩ := aBuildS_sound f2 hi hr hE hh
  refine ⟨v', w', ρ', I1, k1, ?_, ?_, f3.trans' k4, k5⟩
  · rw [updH_append]; exact f1.trans k2
  · rw [updH_append]; exact k3

theorem frzBuild_sound (c : Conc G.g ρ I H w) (ev : Operand → AV) (e : Operand → Value) (r : ∀ x, rel ρ I w (ev x) (e x)) (o : Oper) (nid : Nat) (E : Eff) (v : AV) (u : List (Nat × Ent)) (h : frzBuild G o.op ev H nid = some E) (hh : E.has v u) :
    EffOk G ρ I H w ((execOp e o).run P w) v u := by
  unfold frzBuild at h
  split at h
  · rename_i t len parts hop
    split at h
    rename_i vs u0 hf
    split at h
    · rename_i E' hE
      simp only [Option.some.injEq] at h
      subst h
      obtain ⟨u1, rfl, hh'⟩ := Eff.pre_has hh
      have key := frzBuild_run (t := t) (len := len) (nid := nid) (parts := parts) c r hf hE hh'
      have run : ∀ (y : Value) (w' : World), (Instr.buildSlice t len (parts.map fun p => (p.1, e p.2))).run P w = .ok y w' → (execOp e o).run P w = .ok (.value y) w' := by
        intro y w' h
        simp only [execOp, hop, Sem.run_bind, h, Result.andThen_ok]
        rfl
      exact EffOk.of_fin run key
    · simp at h
  · simp at h

mutual
theorem frzA_congr : ∀ (a : AV) {H H' : Heap}, (∀ id ∈ refD a, H'[id]? = H[id]?) → frzA H' a = frzA H a
  | .sl id off k len, H, H', hr => by
    have := hr id (by simp [refD])
    simp only [frzA, content8, this]
  | .slv id k n f, H, H', _ => rfl
  | .agg l, H, H', hr => by simp only [frzA, frzL_congr l (by simpa [refD] using hr)]
  | .any, _, _, _ | .raw _, _, _, _ | .int _ _, _, _, _ | .u8 _, _, _, _ | .u32 _, _, _, _ | .u64 _, _, _, _ | .bool _, _, _, _ | .str _, _, _, _ | .b8 _ _, _, _, _ | .w32 _ _, _, _, _ | .w64 _ _, _, _, _ | .n64 _ _, _, _, _
  | .ptr _ _, _, _, _ | .pix _ _ _ _, _, _, _ | .vec8 _ _, _, _, _ | .vec _ _ _, _, _, _ | .vecr _ _ _ _, _, _, _ | .vp _ _, _, _, _ | .vpx _ _ _ _, _, _, _ | .fn _ _ _, _, _, _ | .tup _, _, _, _ => rfl
theorem frzL_congr : ∀ (l : List AV) {H H' : Heap}, (∀ id ∈ refDL l, H'[id]? = H[id]?) → frzL H' l = frzL H l
  | [], _, _, _ => rfl
  | a :: as, H, H', hr => by
    have h1 := frzA_congr a fun id h => hr id (by simp [refDL, h])
    have h2 : frzL (updH H' (frzA H a).2) as = frzL (updH H (frzA H a).2) as := frzL_congr as fun id h => by
      have := hr id (by simp [refDL, h])
      have key : ∀ (u : List (Nat × Ent)) (H1 H2 : Heap), H1[id]? = H2[id]? → (updH H1 u)[id]? = (updH H2 u)[id]? := by
        intro u
        induction u with
        | nil => intro H1 H2 h; exact h
        | cons p r ih =>
          intro H1 H2 h
          obtain ⟨i, e⟩ := p
          refine ih _ _ ?_
          rw [List.getElem?_set, List.getElem?_set, h]
          by_cases hi : i = id
          · subst hi
            have : i < H1.length ↔ i < H2.length := by
              rw [← Decidable.not_iff_not, Nat.not_lt, Nat.not_lt, ← List.getElem?_eq_none_iff, ← List.getElem?_eq_none_iff, h]
            simp only [if_true, this]
          · simp only [if_neg hi]
      exact key _ _ _ this
    simp only [frzL, h1, h2]
end

theorem frzBuild_congr (op : Op) (ev ev' : Operand → AV) (H H' : Heap) (nid : Nat) (he : ∀ x ∈ op.operands, ev' x = ev x) (hr : ∀ id ∈ readsE ev op nid (slots G op), H'[id]? = H[id]?) : frzBuild G op ev' H' nid = frzBuild G op ev H nid := by
  cases op with
  | buildSlice t len parts =>
    have h0 : H'[nid]? = H[nid]? := hr nid (by simp [readsE, slots, upTo])
    have hp : (parts.toList.map fun p => ev' p.2) = parts.toList.map fun p => ev p.2 := by
      apply List.map_congr_left
      intro p hp
      rw [he p.2 (by simp only [Op.operands, List.mem_toArray, List.mem_map]; exact ⟨p, hp, rfl⟩)]
    have hd : ∀ id ∈ refDL (parts.toList.map fun p => ev p.2), H'[id]? = H[id]? := by
      have sub : ∀ (l : List AV) (id : Nat), id ∈ refDL l → ∃ a ∈ l, id ∈ refD a := by
        intro l
        induction l with
        | nil => intro id h; simp [refDL] at h
        | cons a as ih =>
          intro id h
          simp only [refDL, List.mem_append] at h
          rcases h with h | h
          · exact ⟨a, by simp, h⟩
          · obtain ⟨b, h1, h2⟩ := ih id h
            exact ⟨b, by simp [h1], h2⟩
      intro id h
      obtain ⟨a, h1, h2⟩ := sub _ id h
      obtain ⟨p, h3, rfl⟩ := List.mem_map.1 h1
      refine hr id ?_
      simp only [readsE]
      refine List.mem_append_left _ (mem_refIds (x := p.2) (by simp only [Op.operands, List.mem_map]; exact ⟨p, h3, rfl⟩) ?_)
      cases hx : ev p.2 <;> rw [hx] at h2 <;> simp_all [refD, refId]
    have hz := frzL_congr (parts.toList.map fun p => ev p.2) hd
    have h0' : isRes (updH H' (frzL H (parts.toList.map fun p => ev p.2)).2) nid = isRes (updH H (frzL H (parts.toList.map fun p => ev p.2)).2) nid := by
      have key : ∀ (u : List (Nat × Ent)) (H1 H2 : Heap), H1[nid]? = H2[nid]? → (updH H1 u)[nid]? = (updH H2 u)[nid]? := by
        intro u
        induction u with
        | nil => intro H1 H2 h; exact h
        | cons p r ih =>
          intro H1 H2 h
          obtain ⟨i, e⟩ := p
          refine ih _ _ ?_
          rw [List.getElem?_set, List.getElem?_set, h]
          by_cases hi : i = nid
          · subst hi
            have : i < H1.length ↔ i < H2.length := by
              rw [← Decidable.not_iff_not, Nat.not_lt, Nat.not_lt, ← List.getElem?_eq_none_iff, ← List.getElem?_eq_none_iff, h]
            simp only [if_true, this]
          · simp only [if_neg hi]
      exact isRes_congr (key _ _ _ h0)
    simp only [frzBuild, hp, hz, aBuildS, h0']
  | _ => rfl
end

/-- All operations on slices: those to rows told by number, new rows of what is written no more, parts of arrays, and the others. -/
def ROps.rows {P : Program} (G : Env P) : ROps G where
  f := fun op ev H nid => match rowOps G op ev H nid with
    | some E => some E
    | none => match frzBuild G op ev H nid with
      | some E => some E
      | none => (ROps.frz G).f op ev H nid
  congr := fun op ev ev' H H' nid he hr => by rw [rowOps_congr op ev ev' H H' nid he hr, frzBuild_congr op ev ev' H H' nid he hr, (ROps.frz G).congr op ev ev' H H' nid he hr]
  sound := fun ρ I H w c ev e r o nid E v u h hh => by
    split at h
    · rename_i E' hE
      simp only [Option.some.injEq] at h
      subst h
      exact rowOps_sound c ev e r o nid E' v u hE hh
    · split at h
      · rename_i E' hE
        simp only [Option.some.injEq] at h
        subst h
        exact frzBuild_sound c ev e r o nid E' v u hE hh
      · exact (ROps.frz G).sound ρ I H w c ev e r o nid E v u h hh
/-- The same, where parts of arrays are owned. -/
def ROps.rows0 {P : Program} (G : Env P) : ROps G where
  f := fun op ev H nid => match rowOps G op ev H nid with
    | some E => some E
    | none => match frzBuild G op ev H nid with
      | some E => some E
      | none => slOps G op ev H nid
  congr := fun op ev ev' H H' nid he hr => by rw [rowOps_congr op ev ev' H H' nid he hr, frzBuild_congr op ev ev' H H' nid he hr, slOps_congr op ev ev' H H' nid he hr]
  sound := fun ρ I H w c ev e r o nid E v u h hh => by
    split at h
    · rename_i E' hE
      simp only [Option.some.injEq] at h
      subst h
      exact rowOps_sound c ev e r o nid E' v u hE hh
    · split at h
      · rename_i E' hE
        simp only [Option.some.injEq] at h
        subst h
        exact frzBuild_sound c ev e r o nid E' v u hE hh
      · exact slOps_sound c ev e r o nid E v u h hh
end
end Go.V
