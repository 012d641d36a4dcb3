/- The abstract layer (third state), part D: effects hold; guarded steps. -/
import Derived.Test.YtfjmpdoidkblcaaDoorWC
set_option linter.unusedSimpArgs false
set_option linter.unusedVariables false
namespace Go.V
open Go
noncomputable section

section
variable {P : Program} {G : Env P} {ρ : Rho} {I : Imm} {H : Heap} {w : World}

theorem RL_rowsTake {k : Nat} : ∀ {rows : List AV} {vs : List Value} (n : Nat), (∀ a ∈ rows, szA a = k) → RL ρ I w rows vs → RL ρ I w (rows.take n) (vs.take (n * k))
  | _, _, 0, _, _ => by simp [RL]
  | [], _, n + 1, _, h => by cases h; simp [RL]
  | a :: as, _, n + 1, hk, ⟨ys, zs, h0, h1, h2⟩ => by
    subst h0
    have hl := R_len a ys h1
    rw [hk a (by simp)] at hl
    rw [List.take_succ_cons]
    refine ⟨ys, zs.take (n * k), ?_, h1, RL_rowsTake n (fun b hb => hk b (by simp [hb])) h2⟩
    rw [Nat.add_mul, Nat.one_mul, Nat.add_comm, List.take_append, hl]
    rw [List.take_of_length_le (by omega), Nat.add_sub_cancel_left]

/-- What the caller lends. -/
def lentI (b : Bool) (I : Imm) (w : World) : Imm := fun x o => if b then x < w.heap.size else I x o

theorem lent_sub (c : Conc G.g ρ I H w) (b : Bool) : (∀ x o, I x o → lentI b I w x o) ∧ (∀ x o, lentI b I w x o → x < w.heap.size) := by
  refine ⟨fun x o h => ?_, fun x o h => ?_⟩ <;> unfold lentI at *
  · split
    · exact (c.imm x o h).1
    · exact h
  · split at h
    · exact h
    · exact (c.imm x o h).1

theorem lent_mono (c : Conc G.g ρ I H w) {b d : Bool} (hbd : b = true → d = true) : Mono ρ (lentI b I w) w ρ (lentI d I w) w :=
  ⟨fun _ _ h => h, fun x o h => ⟨by
    cases d
    · have : b = false := by cases b <;> simp_all
      rw [this] at h; exact h
    · exact (lent_sub c b).2 x o h, rfl⟩, fun _ h => ⟨h, rfl⟩⟩

theorem lend1_sound (c : Conc G.g ρ I H w) {a x : AV} {p b : Bool} {v : Value} (h : lend1 H a = some (p, x, b)) (hp : p = true) (r : rel ρ I w a v) : rel ρ (lentI b I w) w x v := by
  cases a with
  | sl id off k len =>
    simp only [lend1] at h
    have rs := rel_sl.1 r
    split at h
    · rename_i k' rows f he
      simp only [Option.some.injEq, Prod.mk.injEq] at h
      obtain ⟨rfl, rfl, rfl⟩ := h
      simp only [Bool.and_eq_true, beq_iff_eq] at hp
      obtain ⟨⟨rfl, rfl⟩, hle⟩ := hp
      have hle := leB_iff.1 hle
      obtain ⟨hev, hg⟩ := c.grow id _ he rfl
      have hev' : ∀ a ∈ rows, szA a = k := hev
      refine rel_vec.2 ⟨fun a ha => hev' a (List.mem_of_mem_take ha), ?_⟩
      rcases rs with ⟨bl, cap, h1, rfl, h3, h4, h5⟩ | ⟨rfl, a, rfl⟩
      · rcases hg with ⟨g1, _⟩ | ⟨b', el, fr, us, rest, g1, g2, g3, g4⟩
        · rw [g1] at h1; simp at h1
        · rw [g1] at h1
          simp only [Option.some.injEq] at h1
          subst h1
          refine ⟨us.take (len * k), RL_mono (ρ := ρ) (I := I) (w := w) ⟨fun _ _ h => h, fun x o h => ⟨(lent_sub c true).1 x o h, rfl⟩, fun _ h => ⟨h, rfl⟩⟩ _ _ (RL_rowsTake len hev' g3), some ⟨b', 0, none⟩, cap, ?_, ?_, by simp, .inr ⟨b', 0, rfl, h4, ?_⟩⟩
          · rw [List.length_take, Nat.min_eq_left hle]
          · rw [List.length_take, Nat.min_eq_left hle]; exact h3
          · intro i y hy
            refine ⟨?_, by simp only [lentI, if_true]; exact h4⟩
            rw [Nat.zero_add, cell_of_heap g2]
            have hi := (List.getElem?_eq_some_iff.1 hy).1
            rw [List.getElem?_take] at hy
            split at hy
            · rw [List.getElem?_append_left (List.getElem?_eq_some_iff.1 hy).1]; exact hy
            · simp at hy
      · exact ⟨[], by simp [RL], a, 0, by simp, by simp, by simp, .inl (by simp)⟩
    · split at h
      · rename_i c' l hc
        simp only [Option.some.injEq, Prod.mk.injEq] at h
        obtain ⟨rfl, rfl, rfl⟩ := h
        obtain ⟨y, cap, rfl, hcs⟩ := content8_sound c hc hp r
        rw [rel_vec8]
        have hcap : l.length ≤ cap := by
          rcases rs with ⟨bl, cap', h1, h2, h3, h4, h5⟩ | ⟨h1, a, h2⟩
          · simp only [Value.slice.injEq] at h2; omega
          · simp only [Value.slice.injEq] at h2; omega
        refine ⟨y, cap, rfl, hcap, by simp, ?_⟩
        rcases hcs with rfl | ⟨b', off', rfl, hcell⟩
        · exact .inl rfl
        · rcases Nat.eq_zero_or_pos l.length with hz | hz
          · exact .inl hz
          · have hb : b' < w.heap.size := by
              have := hcell 0 _ (v8_get hz)
              unfold World.cell? at this
              split at this
              · rename_i hq; exact (Array.getElem?_eq_some_iff.1 hq).1
              · simp at this
            exact .inr ⟨b', off', rfl, hb, fun i y hy => ⟨hcell i y hy, by simp only [lentI, if_true]; exact hb⟩⟩
      · simp at h
  | _ =>
    simp only [lend1, Option.some.injEq, Prod.mk.injEq] at h
    obtain ⟨_, rfl, rfl⟩ := h
    exact rel_mono (ρ := ρ) (I := I) (w := w) ⟨fun _ _ h => h, fun x o h => ⟨(lent_sub c false).1 x o h, rfl⟩, fun _ h => ⟨h, rfl⟩⟩ r

theorem lend_sound (c : Conc G.g ρ I H w) : ∀ {args xs : List AV} {p b : Bool} {vs : List Value}, lend H args = some (p, xs, b) → p = true → RV ρ I w args vs → RV ρ (lentI b I w) w xs vs
  | [], xs, p, b, vs, h, _, r => by
    simp only [lend, Option.some.injEq, Prod.mk.injEq] at h
    obtain ⟨_, rfl, _⟩ := h
    exact r
  | a :: as, xs, p, b, vs, h, hp, r => by
    simp only [lend] at h
    split at h
    · rename_i c1 x b1 h1
      split at h
      · rename_i d ys b2 h2
        simp only [Option.some.injEq, Prod.mk.injEq] at h
        obtain ⟨rfl, rfl, rfl⟩ := h
        simp only [Bool.and_eq_true] at hp
        obtain ⟨y, zs, rfl, k1, k2⟩ := RV_cons.1 r
        refine RV_cons.2 ⟨y, zs, rfl, ?_, ?_⟩
        · exact rel_mono (lent_mono c (by intro h; simp [h])) (lend1_sound c h1 hp.1 k1)
        · exact RV_mono (lent_mono c (by intro h; simp [h])) _ _ (lend_sound c h2 hp.2 k2)
      · simp at h
    · simp at h

/-- The forms that a case of a call may take. -/
theorem outE_has {b : Bool} {H : Heap} {nid : Nat} : ∀ {out : Out} {v : AV} {u : List (Nat × Ent)}, (outE b H nid out).has v u →
    ∃ v0 H0, out.has v0 H0 ∧ v = renA (shift nid) v0 ∧ u = newsFrom (shift nid) nid H0 ∧ slotsOk H nid H0 = true ∧ (b = true → nvA v0 = true ∧ H0.all nvE = true)
  | .ret v0 H0, v, u, h => by
    obtain ⟨h1, h3, _, h4, h5⟩ := h
    simp only [Bool.and_eq_true, Bool.or_eq_true, Bool.not_eq_true'] at h1 h3
    exact ⟨v0, H0, ⟨rfl, rfl⟩, h4, h5, h1.2, fun hb => h3.resolve_left (by simp [hb])⟩
  | .alt true x y, v, u, h => outE_has (out := x) h
  | .alt false x y, v, u, h => outE_has (out := y) h

/-- The case that holds, alone. -/
theorem Out.has_det : ∀ {out : Out} {v v' : AV} {H H' : Heap}, out.has v H → out.has v' H' → v' = v ∧ H' = H
  | .ret v0 H0, _, _, _, _, ⟨h1, h2⟩, ⟨h3, h4⟩ => ⟨h3.trans h1.symm, h4.trans h2.symm⟩
  | .alt true x y, _, _, _, _, h, h' => Out.has_det (out := x) h h'
  | .alt false x y, _, _, _, _, h, h' => Out.has_det (out := y) h h'

theorem amem_sound (c : Conc G.g ρ I H w) {ev : Operand → AV} {e : Operand → Value} (r : ∀ x, rel ρ I w (ev x) (e x)) {o : Oper} {nid : Nat} {E : Eff} {v : AV} {u : List (Nat × Ent)}
    (h : amem G o.op ev H nid = some E) (hh : E.has v u) : EffOk G ρ I H w ((execOp e o).run P w) v u := by
  unfold amem at h
  split at h
  · rename_i t hop
    split at h
    · rename_i ti hti
      split at h
      · rename_i z hz
        simp only [Option.some.injEq] at h
        subst h
        obtain ⟨hc, rfl, rfl⟩ := hh
        simp only [Bool.and_eq_true, isRes_iff] at hc
        obtain ⟨j, d, h1, h2, h3, _, h5, h6, _⟩ := ty_ok hti
        obtain ⟨zv, hzv, hck⟩ := h6 z hz
        have hrun : (execOp e o).run P w = .ok (.value (.pointer (some ⟨w.heap.size, 0, none⟩))) (w.alloc (.cells zv.cells t)) := by
          simp [execOp, hop, Instr.alloc, zeroValue, run_typeInfo h1, hzv, newVar, newRow]
        have hr := R_cells (known_cells (chkV_sound hck ρ I w) hc.1)
        obtain ⟨g1, g2, g3⟩ := fill_gen (w' := w.alloc (.cells zv.cells t)) c hc.2 (.blk z.cells []) (some w.heap.size) (fun b hb => by simp at hb; subst hb; simp) (by simp) (fun b hb => alloc_old w _ hb) rfl
          (fun cs f he => by
            simp only [Ent.blk.injEq] at he
            obtain ⟨rfl, rfl⟩ := he
            exact ⟨_, t, (0, 0), zv.cells.toList, rfl, by simpa using alloc_new w _, hr, fun o _ => by simp⟩) (fun h => by simp [Ent.grows] at h) rfl rfl rfl
        exact ⟨_, _, .inl hrun, _, _, g1, g2, g3, rel_ptr.2 ⟨w.heap.size, by simp [bindR], rfl⟩⟩
      · simp at h
    · simp at h
  · rename_i t x hop
    simp only [Option.some.injEq] at h
    subst h
    obtain ⟨hc, rfl, rfl⟩ := hh
    simp only [Bool.and_eq_true, isRes_iff] at hc
    have hrun : (execOp e o).run P w = .ok (.value (.pointer (some ⟨w.heap.size, 0, none⟩))) (w.alloc (.cells (e x).cells t)) := by
      simp [execOp, hop, Instr.box, newVar, newRow]
    have hr := R_cells (known_cells (r x) hc.1)
    obtain ⟨g1, g2, g3⟩ := fill_gen (w' := w.alloc (.cells (e x).cells t)) c hc.2 (.blk (ev x).cells []) (some w.heap.size) (fun b hb => by simp at hb; subst hb; simp) (by simp) (fun b hb => alloc_old w _ hb) rfl
      (fun cs f he => by
        simp only [Ent.blk.injEq] at he
        obtain ⟨rfl, rfl⟩ := he
        exact ⟨_, t, (0, 0), (e x).cells.toList, rfl, by simpa using alloc_new w _, hr, fun o _ => by simp⟩) (fun h => by simp [Ent.grows] at h) rfl rfl rfl
    exact ⟨_, _, .inl hrun, _, _, g1, g2, g3, rel_ptr.2 ⟨w.heap.size, by simp [bindR], rfl⟩⟩
  · rename_i t a x hop
    split at h
    · rename_i b id e1 hs
      simp only [Option.some.injEq] at h
      subst h
      obtain ⟨hc, rfl, rfl⟩ := hh
      obtain ⟨w', h1, h2, h3, h4⟩ := store_sound c r hop hs hc
      exact ⟨undef, w', .inr ⟨h1, rfl⟩, ρ, I, h2, h3, h4, rel_undef⟩
    · simp at h
  · simp at h

/-- What comes after an effect. -/
def After (G : Env P) (ρ : Rho) (I : Imm) (H : Heap) (w : World) (a : Act) (o : Oper) (v : AV) (u : List (Nat × Ent)) (next : Act → World → Prop) : Prop :=
  ∀ (ρ' : Rho) (I' : Imm) (x : Value) (w' : World), Good ρ I H w ρ' I' (updH H u) w' → Conc G.g ρ' I' (updH H u) w' → Mono ρ I w ρ' I' w' → rel ρ' I' w' v x → next (a.put o.dst x) w'

theorem EffOk.upon {v : AV} {u : List (Nat × Ent)} {o : Oper} {a : Act} {next : Act → World → Prop} {Q : Exit → Act → World → Prop} {res : Result Next} (h : EffOk G ρ I H w res v u) (hn : After G ρ I H w a o v u next) : o.upon P a next Q res := by
  obtain ⟨x, w', hres, ρ', I', h1, h2, h3, h4⟩ := h
  rcases hres with rfl | ⟨rfl, rfl⟩
  · exact hn ρ' I' x w' h1 h2 h3 h4
  · exact hn ρ' I' undef w' h1 h2 h3 h4

theorem eff_sound (R : ROps G) (T : Ctr G) (c : Conc G.g ρ I H w) {t : List AV} {a : Act} (r : RelT ρ I w t a) {o : Oper} {nid : Nat} {E : Eff} {v : AV} {u : List (Nat × Ent)}
    (h : eff G R T.C o.op (evA G t) H nid = some E) (hh : E.has v u) {next : Act → World → Prop} {Q : Exit → Act → World → Prop} (hn : After G ρ I H w a o v u next) : o.wp P a w next Q := by
  have re := rel_evA c r
  unfold eff at h
  unfold Oper.wp
  split at h
  · rename_i b v' hv
    simp only [Option.some.injEq] at h
    subst h
    obtain ⟨hc, rfl, rfl⟩ := hh
    obtain ⟨x, h1, h2⟩ := aval0_sound c re hv hc
    exact EffOk.upon ⟨x, w, .inl h1, ρ, I, Good.refl _ _ _ _, c, ⟨fun _ _ h => h, fun _ _ h => ⟨h, rfl⟩, fun _ h => ⟨h, rfl⟩⟩, h2⟩ hn
  · split at h
    · rename_i E' hv
      simp only [Option.some.injEq] at h
      subst h
      exact EffOk.upon (amem_sound c re hv hh) hn
    · split at h
      · rename_i E' hv
        simp only [Option.some.injEq] at h
        subst h
        exact EffOk.upon (R.sound ρ I H w c _ _ re o nid E' v u hv hh) hn
      · split at h
        · rename_i f args hcall
          unfold callE at h
          split at h
          · rename_i c1 args' b hl
            split at h
            · rename_i pre out hC
              simp only [Option.some.injEq] at h
              subst h
              obtain ⟨hgo, hpure, hc1, hpre, hh⟩ := hh
              obtain ⟨v0, H0, ho, rfl, rfl, hs, hnv⟩ := outE_has hh
              obtain ⟨vs, h1, h2⟩ := acall_run re hcall (G.goOk f hgo)
              rw [h1]
              have hcal := T.ok f args' pre out hC hpre
              obtain ⟨i1, i2⟩ := lent_sub c b
              have := hcal.frame c i1 i2 (by
                cases b
                · exact .inl fun x o h => h
                · exact .inr fun v1 H1 h1 => by
                    obtain ⟨rfl, rfl⟩ := Out.has_det ho h1
                    exact hnv rfl) nid (fun v1 H1 h1 => by
                    obtain ⟨rfl, rfl⟩ := Out.has_det ho h1
                    exact hs) (lend_sound c hl hc1 h2)
              rw [Array.toArray_toList] at this
              refine Calls.mono this ?_
              rintro e w' ⟨x, rfl, v1, H1, ρ', I', k1, k2, k3, k4, k5⟩
              obtain ⟨rfl, rfl⟩ := Out.has_det ho k1
              exact hn ρ' I' x w' k2 k3 k4 k5
            · simp at h
          · simp at h
        · simp at h
end
end
end Go.V
