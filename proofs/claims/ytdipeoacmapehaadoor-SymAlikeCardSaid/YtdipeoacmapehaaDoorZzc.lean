/- The abstract layer (third state), part G: the walker holds. -/
import Derived.Test.YtdipeoacmapehaaDoorZzb
import Derived.Test.YtdipeoacmapehaaDoorProg
import Derived.Test.YtdipeoacmapehaaDoorZza
import Derived.KernelRfl
import Derived.Laws.Slices
import Derived.Lib.ConvBytes

set_option linter.unusedSimpArgs false
set_option linter.unusedVariables false
namespace Go.V
open Go
noncomputable section

theorem leA_sound {a b : AV} {k : Prop} (h : leA a b k) : (∀ ρ I w v, rel ρ I w a v → rel ρ I w b v) ∧ k := by
  unfold leA at h
  split at h
  · exact ⟨fun _ _ _ _ _ => rel_any, h⟩
  · split at h
    · obtain ⟨h1, h2⟩ := cnd_iff.1 h
      simp only [Bool.and_eq_true, beq_iff_eq] at h1
      obtain ⟨rfl, rfl⟩ := h1
      exact ⟨fun _ _ _ _ h => h, h2⟩
    · exact h.elim
  · split at h
    · obtain ⟨h1, rfl, h2, h3⟩ := cnd_iff.1 h
      simp only [Bool.and_eq_true, beq_iff_eq] at h1
      obtain ⟨rfl, rfl⟩ := h1
      refine ⟨fun ρ I w v h => ?_, h3⟩
      obtain ⟨k1, k2⟩ := rel_slv.1 h
      obtain ⟨k3, vs, k4, k5, k6⟩ := rel_vecr.1 k1
      exact rel_slv.2 ⟨rel_vecr.2 ⟨fun i hi => by rw [← h2 i hi]; exact k3 i hi, vs, k4, fun i hi => by rw [← h2 i hi]; exact k5 i hi, k6⟩, k2⟩
    · exact h.elim
  · obtain ⟨rfl, h2⟩ := h
    exact ⟨fun _ _ _ _ h => h, h2⟩

theorem leT_sound : ∀ {t T : List AV} {k : Prop}, leT t T k → (∀ ρ I w vs, RV ρ I w t vs → RV ρ I w T vs) ∧ k
  | [], [], k, h => ⟨fun _ _ _ _ h => h, h⟩
  | a :: as, b :: bs, k, h => by
    obtain ⟨h1, h2⟩ := leA_sound (k := leT as bs k) h
    obtain ⟨h3, h4⟩ := leT_sound h2
    refine ⟨fun ρ I w vs r => ?_, h4⟩
    obtain ⟨x, xs, rfl, k1, k2⟩ := RV_cons.1 r
    exact RV_cons.2 ⟨x, xs, rfl, h1 _ _ _ _ k1, h3 _ _ _ _ k2⟩
  | [], _ :: _, k, h => h.elim
  | _ :: _, [], k, h => h.elim

theorem leC_sound : ∀ {c d : List AV} {k : Prop}, leC c d k → (∀ ρ I w vs, RL ρ I w c vs → RL ρ I w d vs) ∧ k
  | [], [], k, h => ⟨fun _ _ _ _ h => h, h⟩
  | a :: as, b :: bs, k, h => by
    have key : ∀ (hab : ∀ ρ I w ys, R ρ I w a ys → R ρ I w b ys), leC as bs k → (∀ ρ I w vs, RL ρ I w (a :: as) vs → RL ρ I w (b :: bs) vs) ∧ k := by
      intro hab h2
      obtain ⟨h3, h4⟩ := leC_sound h2
      refine ⟨fun ρ I w vs r => ?_, h4⟩
      obtain ⟨ys, zs, rfl, k1, k2⟩ := RL_cons.1 r
      exact RL_cons.2 ⟨ys, zs, rfl, hab _ _ _ _ k1, h3 _ _ _ _ k2⟩
    unfold leC at h
    split at h
    · obtain ⟨h1, h2⟩ := cnd_iff.1 h
      refine key (fun ρ I w ys r => ?_) h2
      have := R_len _ _ r
      rw [beq_iff_eq] at h1
      rw [h1] at this
      match ys, this with
      | [y], _ => exact ⟨y, rfl⟩
    · split at h
      · obtain ⟨h1, h2⟩ := cnd_iff.1 h
        simp only [Bool.and_eq_true, beq_iff_eq] at h1
        obtain ⟨rfl, rfl⟩ := h1
        exact key (fun _ _ _ _ h => h) h2
      · exact h.elim
    · obtain ⟨rfl, h2⟩ := h
      exact key (fun _ _ _ _ h => h) h2
  | [], _ :: _, k, h => h.elim
  | _ :: _, [], k, h => h.elim

/-- An entry says no more than another one. -/
def weakE (e e' : Ent) : Prop :=
  e' = .dead ∨ (∃ c c' f, e = .blk c f ∧ e' = .blk c' f ∧ ∀ ρ I w vs, RL ρ I w c vs → RL ρ I w c' vs) ∨ (e = e' ∧ e ≠ .res)

theorem leE_sound {e e' : Ent} {k : Prop} (h : leE e e' k) : weakE e e' ∧ k := by
  unfold leE at h
  split at h
  · exact ⟨.inl rfl, h⟩
  · split at h
    · obtain ⟨h1, h2⟩ := cnd_iff.1 h
      obtain ⟨h3, h4⟩ := leC_sound h2
      cases eqF_eq h1
      exact ⟨.inr (.inl ⟨_, _, _, rfl, rfl, fun ρ I w vs r => (RL_fl _ vs).2 (h3 ρ I w vs ((RL_fl _ vs).1 r))⟩), h4⟩
    · exact h.elim
  · split at h
    · obtain ⟨h1, rfl, h2⟩ := cnd_iff.1 h
      cases eqF_eq h1
      exact ⟨.inr (.inr ⟨rfl, by simp⟩), h2⟩
    · exact h.elim
  · split at h
    · obtain ⟨h1, rfl, h2⟩ := cnd_iff.1 h
      simp only [Bool.and_eq_true, beq_iff_eq] at h1
      obtain ⟨rfl, h1⟩ := h1
      cases eqF_eq h1
      exact ⟨.inr (.inr ⟨rfl, by simp⟩), h2⟩
    · exact h.elim
  · split at h
    · obtain ⟨h1, rfl, h2⟩ := cnd_iff.1 h
      simp only [beq_iff_eq] at h1
      subst h1
      exact ⟨.inr (.inr ⟨rfl, by simp⟩), h2⟩
    · exact h.elim
  · exact h.elim

theorem leH_sound : ∀ {H H' : Heap} {k : Prop}, leH H H' k → (H.length = H'.length ∧ ∀ (i : Nat) (e e' : Ent), H[i]? = some e → H'[i]? = some e' → weakE e e') ∧ k
  | [], [], k, h => ⟨⟨rfl, fun _ _ _ h => by simp at h⟩, h⟩
  | a :: as, b :: bs, k, h => by
    obtain ⟨h1, h2⟩ := leE_sound (k := leH as bs k) h
    obtain ⟨⟨h3, h5⟩, h4⟩ := leH_sound h2
    refine ⟨⟨by simp [h3], fun i e e' g g' => ?_⟩, h4⟩
    cases i with
    | zero => simp at g g'; subst g; subst g'; exact h1
    | succ i => exact h5 i e e' (by simpa using g) (by simpa using g')
  | [], _ :: _, k, h => h.elim
  | _ :: _, [], k, h => h.elim

section
variable {g : Nat → Option (List AV)} {ρ : Rho} {I : Imm} {H : Heap} {w : World}

theorem weak_conc (c : Conc g ρ I H w) {H' : Heap} (hl : H.length = H'.length) (hw : ∀ (i : Nat) (e e' : Ent), H[i]? = some e → H'[i]? = some e' → weakE e e') :
    Conc g ρ I H' w ∧ ∀ {ρ0 : Rho} {I0 : Imm} {H0 : Heap} {w0 : World}, Good ρ0 I0 H0 w0 ρ I H w → Good ρ0 I0 H0 w0 ρ I H' w := by
  have back : ∀ (i : Nat) (e' : Ent), H'[i]? = some e' → ∃ e, H[i]? = some e ∧ weakE e e' := by
    intro i e' h
    have hi := (List.getElem?_eq_some_iff.1 h).1
    exact ⟨H[i], by simp [hl, hi], hw i _ e' (by simp [hl, hi]) h⟩
  have live : ∀ (i : Nat) (e' : Ent), H'[i]? = some e' → e'.live = true → ∃ e, H[i]? = some e ∧ e.live = true ∧ e.frz = e'.frz ∧ (e'.grows = true → e = e') := by
    intro i e' h hl
    obtain ⟨e, h1, h2⟩ := back i e' h
    rcases h2 with rfl | ⟨cs, c', f, rfl, rfl, _⟩ | ⟨rfl, _⟩
    · simp [Ent.live] at hl
    · exact ⟨_, h1, rfl, rfl, fun h => by simp [Ent.grows] at h⟩
    · exact ⟨e, h1, hl, rfl, fun _ => rfl⟩
  have gl : ∀ (e : Ent), e.grows = true → e.live = true := by intro e h; cases e <;> simp_all [Ent.grows, Ent.live]
  have mutb : ∀ b o, Mut ρ H' b o → Mut ρ H b o := by
    rintro b o ⟨i, e, h1, h2, h3, h4⟩
    obtain ⟨e0, k1, k2, k3, _⟩ := live i e h1 h2
    exact ⟨i, e0, k1, k2, h3, k3 ▸ h4⟩
  refine ⟨⟨fun id h => hl ▸ c.dom id h, ?_, c.blt, ?_, ?_, ?_, fun b o h => ⟨(c.imm b o h).1, fun hm => (c.imm b o h).2 (mutb b o hm)⟩, c.glob⟩, ?_⟩
  · intro id h
    obtain ⟨e, h1, h2⟩ := back id _ h
    rcases h2 with h2 | ⟨_, _, _, _, h2, _⟩ | ⟨rfl, h2⟩
    · simp at h2
    · simp at h2
    · exact absurd rfl h2
  · intro i j b e e' hi l1 hj l2 hbi hbj
    obtain ⟨e1, k1, k2, _⟩ := live i e hi l1
    obtain ⟨e2, k3, k4, _⟩ := live j e' hj l2
    exact c.inj i j b e1 e2 k1 k2 k3 k4 hbi hbj
  · intro id cs f h
    obtain ⟨e, h1, h2⟩ := back id _ h
    rcases h2 with h2 | ⟨cs0, c', f0, rfl, h2, h3⟩ | ⟨rfl, _⟩
    · simp at h2
    · simp only [Ent.blk.injEq] at h2
      obtain ⟨rfl, rfl⟩ := h2
      obtain ⟨b, el, fr, us, q1, q2, q3, q4⟩ := c.blk id cs0 f h1
      exact ⟨b, el, fr, us, q1, q2, h3 _ _ _ _ q3, q4⟩
    · exact c.blk id cs f h1
  · intro id e h he
    obtain ⟨e0, k1, _, _, k4⟩ := live id e h (gl e he)
    cases k4 he
    exact c.grow id _ k1 he
  · intro ρ0 I0 H0 w0 gd
    refine ⟨gd.ext, fun id x h ⟨e, h1, h2⟩ => ?_, by rw [← hl]; exact gd.len, gd.imm, gd.imm', gd.os, gd.tape, gd.out, gd.size, gd.cell, gd.block, gd.bs, fun b o hb h => gd.wrt b o hb (mutb b o h), fun b hb ⟨i, e, h1, h2, h3⟩ => ?_⟩
    · obtain ⟨e0, k1, _, _, k4⟩ := live id e h1 (gl e h2)
      cases k4 h2
      exact gd.kp id x h ⟨_, k1, h2⟩
    · obtain ⟨e0, k1, k2, _⟩ := live i e h1 h2
      exact gd.own b hb ⟨i, e0, k1, k2, h3⟩

def cutR (n : Nat) (ρ : Rho) : Rho := fun id => if id < n then ρ id else none

theorem refsOk_spec {n : Nat} {T : List AV} {H : Heap} (h : refsOk n T H = true) : refsL n T = true ∧ ∀ e ∈ H, e ≠ .res → refsE n e = true := by
  simp only [refsOk, Bool.and_eq_true, List.all_eq_true] at h
  refine ⟨h.1, fun e he hne => ?_⟩
  have := h.2 e he
  cases e <;> simp_all [refsE]

/-- Later entries forgotten. -/
theorem cut_conc (c : Conc g ρ I H w) (n : Nat) (hr : ∀ e ∈ H.take n, e ≠ .res → refsE n e = true) :
    Conc g (cutR n ρ) I (H.take n) w ∧ ∀ {ρ0 : Rho} {I0 : Imm} {H0 : Heap} {w0 : World}, Good ρ0 I0 H0 w0 ρ I H w → (∀ id, ρ0 id ≠ none → id < n) → H0.length ≤ n → Good ρ0 I0 H0 w0 (cutR n ρ) I (H.take n) w := by
  have up : ∀ (i : Nat) (e : Ent), (H.take n)[i]? = some e → H[i]? = some e ∧ i < n := by
    intro i e h
    rw [List.getElem?_take] at h
    split at h
    · exact ⟨h, by assumption⟩
    · simp at h
  have ro : ∀ i, i < n → cutR n ρ i = ρ i := fun i h => by simp [cutR, h]
  have mutb : ∀ b o, Mut (cutR n ρ) (H.take n) b o → Mut ρ H b o := by
    rintro b o ⟨i, e, h1, h2, h3, h4⟩
    obtain ⟨k1, k2⟩ := up i e h1
    exact ⟨i, e, k1, h2, ro i k2 ▸ h3, h4⟩
  refine ⟨⟨?_, ?_, ?_, ?_, ?_, ?_, fun b o h => ⟨(c.imm b o h).1, fun hm => (c.imm b o h).2 (mutb b o hm)⟩, c.glob⟩, ?_⟩
  · intro id h
    by_cases e : id < n
    · rw [ro id e] at h; have := c.dom id h; simp; omega
    · simp [cutR, e] at h
  · intro id h
    obtain ⟨k1, k2⟩ := up id _ h
    rw [ro id k2]; exact c.res id k1
  · intro id b h
    by_cases e : id < n
    · rw [ro id e] at h; exact c.blt id b h
    · simp [cutR, e] at h
  · intro i j b e e' hi l1 hj l2 hbi hbj
    obtain ⟨k1, k2⟩ := up i e hi
    obtain ⟨k3, k4⟩ := up j e' hj
    exact c.inj i j b e e' k1 l1 k3 l2 (ro i k2 ▸ hbi) (ro j k4 ▸ hbj)
  · intro id cs f h
    obtain ⟨k1, k2⟩ := up id _ h
    obtain ⟨b, el, fr, us, q1, q2, q3, q4⟩ := c.blk id cs f k1
    exact ⟨b, el, fr, us, by rw [ro id k2]; exact q1, q2, RL_refs ro cs us (hr _ (List.mem_of_getElem? h) (by simp)) q3, q4⟩
  · intro id e h he
    obtain ⟨k1, k2⟩ := up id _ h
    obtain ⟨q, h'⟩ := c.grow id e k1 he
    refine ⟨q, ?_⟩
    rcases h' with ⟨q1, q2⟩ | ⟨b, el, fr, us, rest, q1, q2, q3, q4⟩
    · exact .inl ⟨by rw [ro id k2]; exact q1, q2⟩
    · refine .inr ⟨b, el, fr, us, rest, by rw [ro id k2]; exact q1, q2, RL_refs ro e.cells us ?_ q3, q4⟩
      have := hr _ (List.mem_of_getElem? h) (by rintro rfl; simp [Ent.grows] at he)
      cases e <;> simp_all [refsE, Ent.cells, Ent.grows, refsL, refsA]
  · intro ρ0 I0 H0 w0 gd hd hle
    refine ⟨fun id x h => ?_, fun id x h ⟨e, h1, h2⟩ => gd.kp id x h ⟨e, (up id e h1).1, h2⟩, ?_, gd.imm, gd.imm', gd.os, gd.tape, gd.out, gd.size, gd.cell, gd.block, gd.bs, fun b o hb h => gd.wrt b o hb (mutb b o h),
      fun b hb ⟨i, e, h1, h2, h3⟩ => ?_⟩
    · rw [ro id (hd id (by simp [h]))]; exact gd.ext id x h
    · have := gd.len; simp; omega
    · obtain ⟨k1, k2⟩ := up i e h1
      exact gd.own b hb ⟨i, e, k1, h2, ro i k2 ▸ h3⟩

/-- Memory where a function ends: some entries alone, with numbers of their own. -/
theorem pick_conc (c : Conc g ρ I H w) (ids : List Nat) (hd : ids.Nodup) (hr : ∀ i ∈ ids, ∀ e, H[i]? = some e → e.live = true ∧ refsE 0 e = true) (hin : ∀ i ∈ ids, i < H.length) :
    ∃ ρ' : Rho, (∀ (k i : Nat), ids[k]? = some i → ρ' k = ρ i) ∧ Conc g ρ' I (ids.map fun i => H.getD i .dead) w ∧ ∀ {I0 : Imm} {w0 : World}, Good (fun _ => none) I0 [] w0 ρ I H w → Good (fun _ => none) I0 [] w0 ρ' I (ids.map fun i => H.getD i .dead) w := by
  let ρ' : Rho := fun k => match ids[k]? with
    | some i => ρ i
    | none => none
  have hρ : ∀ (k i : Nat), ids[k]? = some i → ρ' k = ρ i := fun k i h => by show (match ids[k]? with | some i => ρ i | none => none) = _; rw [h]
  have hρn : ∀ k, ids[k]? = none → ρ' k = none := fun k h => by show (match ids[k]? with | some i => ρ i | none => none) = _; rw [h]
  have up : ∀ (k : Nat) (e : Ent), (ids.map fun i => H.getD i .dead)[k]? = some e → ∃ i, ids[k]? = some i ∧ H[i]? = some e := by
    intro k e h
    rw [List.getElem?_map] at h
    cases hk : ids[k]? with
    | none => simp [hk] at h
    | some i =>
      have := hin i (List.mem_of_getElem? hk)
      simp [hk, this] at h
      exact ⟨i, rfl, by simp [this, h]⟩
  have mutb : ∀ b o, Mut ρ' (ids.map fun i => H.getD i .dead) b o → Mut ρ H b o := by
    rintro b o ⟨k, e, h1, h2, h3, h4⟩
    obtain ⟨i, k1, k2⟩ := up k e h1
    exact ⟨i, e, k2, h2, hρ k i k1 ▸ h3, h4⟩
  refine ⟨ρ', hρ, ⟨?_, ?_, ?_, ?_, ?_, ?_, fun b o h => ⟨(c.imm b o h).1, fun hm => (c.imm b o h).2 (mutb b o hm)⟩, c.glob⟩, ?_⟩
  · intro k h
    cases hk : ids[k]? with
    | none => exact absurd (hρn k hk) h
    | some i => simpa using (List.getElem?_eq_some_iff.1 hk).1
  · intro k h
    obtain ⟨i, k1, k2⟩ := up k _ h
    have := (hr i (List.mem_of_getElem? k1) _ k2).1
    simp [Ent.live] at this
  · intro k b h
    cases hk : ids[k]? with
    | none => rw [hρn k hk] at h; simp at h
    | some i => rw [hρ k i hk] at h; exact c.blt i b h
  · intro k l b e e' hi l1 hj l2 hbi hbj
    obtain ⟨i, k1, k2⟩ := up k e hi
    obtain ⟨j, k3, k4⟩ := up l e' hj
    have := c.inj i j b e e' k2 l1 k4 l2 (hρ k i k1 ▸ hbi) (hρ l j k3 ▸ hbj)
    subst this
    exact (List.getElem?_inj (List.getElem?_eq_some_iff.1 k1).1 hd).1 (k1.trans k3.symm)
  · intro k cs f h
    obtain ⟨i, k1, k2⟩ := up k _ h
    obtain ⟨b, el, fr, us, q1, q2, q3, q4⟩ := c.blk i cs f k2
    exact ⟨b, el, fr, us, by rw [hρ k i k1]; exact q1, q2, RL_refs (n := 0) (fun _ h => by omega) cs us (hr i (List.mem_of_getElem? k1) _ k2).2 q3, q4⟩
  · intro k e h he
    obtain ⟨i, k1, k2⟩ := up k _ h
    obtain ⟨q, h'⟩ := c.grow i e k2 he
    refine ⟨q, ?_⟩
    rcases h' with ⟨q1, q2⟩ | ⟨b, el, fr, us, rest, q1, q2, q3, q4⟩
    · exact .inl ⟨by rw [hρ k i k1]; exact q1, q2⟩
    · refine .inr ⟨b, el, fr, us, rest, by rw [hρ k i k1]; exact q1, q2, RL_refs (n := 0) (fun _ h => by omega) e.cells us ?_ q3, q4⟩
      have := (hr i (List.mem_of_getElem? k1) _ k2).2
      cases e <;> simp_all [refsE, Ent.cells, Ent.grows, refsL, refsA]
  · intro I0 w0 gd
    refine ⟨fun _ _ h => by simp at h, fun _ _ h => by simp at h, by simp, gd.imm, gd.imm', gd.os, gd.tape, gd.out, gd.size, gd.cell, gd.block, gd.bs, fun b o hb h => gd.wrt b o hb (mutb b o h), fun b hb ⟨k, e, h1, h2, h3⟩ => ?_⟩
    obtain ⟨i, k1, k2⟩ := up k e h1
    exact gd.own b hb ⟨i, e, k2, h2, hρ k i k1 ▸ h3⟩
end

section
variable {P : Program} {G : Env P} {ρ : Rho} {I : Imm} {H : Heap} {w : World}

theorem leS_sound {n : Nat} {s : St} {T : List AV} {H' : Heap} (h : leS n s T H') (c : Conc G.g ρ I s.H w) {a : Act} (r : RelT ρ I w s.t a) (hr : refsOk n T H' = true) {ρ0 : Rho} {I0 : Imm} {H0 : Heap} {w0 : World}
    (gd : Good ρ0 I0 H0 w0 ρ I s.H w) (hd : ∀ id, ρ0 id ≠ none → id < n) (hle : H0.length ≤ n) (hl' : H'.length = n) : ∃ ρ', Good ρ0 I0 H0 w0 ρ' I H' w ∧ Conc G.g ρ' I H' w ∧ RelT ρ' I w T a := by
  obtain ⟨h1, h2⟩ := leT_sound h
  obtain ⟨⟨h3, h4⟩, _⟩ := leH_sound h2
  obtain ⟨hrT, hrH⟩ := refsOk_spec hr
  -- the whole of memory, weaker
  have hlen : n ≤ s.H.length := by rw [List.length_take] at h3; omega
  have hw : ∀ (i : Nat) (e e' : Ent), s.H[i]? = some e → (H' ++ (s.H.drop n).map fun _ => Ent.dead)[i]? = some e' → weakE e e' := by
    intro i e e' k1 k2
    rcases Nat.lt_or_ge i n with hi | hi
    · rw [List.getElem?_append_left (by omega)] at k2
      refine h4 i e e' ?_ k2
      rw [List.getElem?_take, if_pos hi]; exact k1
    · rw [List.getElem?_append_right (by omega), List.getElem?_map] at k2
      left
      cases hq : (List.drop n s.H)[i - H'.length]? <;> simp [hq] at k2
      exact k2.symm
  obtain ⟨c1, g1⟩ := weak_conc c (by simp; omega) hw
  have ht : (H' ++ (s.H.drop n).map fun _ => Ent.dead).take n = H' := by rw [List.take_append, List.take_of_length_le (by omega), hl']; simp
  obtain ⟨c2, g2⟩ := cut_conc c1 n (fun e he hne => hrH e (by rw [ht] at he; exact he) hne)
  rw [ht] at c2 g2
  exact ⟨cutR n ρ, g2 (g1 gd) hd hle, c2, RV_refs (fun i hi => by simp [cutR, hi]) _ _ hrT (h1 _ _ _ _ r.tr), r.defers⟩

theorem thenA_tri {c : Code} {Q Q' : Exit → St → Prop} {k k' : St → Prop} {s : St} (h : Tri G c (thenA k Q) s) (hk : ∀ s, k s → k' s) (hq : ∀ e s, Q e s → Q' e s) : Tri G c (thenA k' Q') s :=
  h.mono fun e s' h' => by cases e <;> first | exact hk _ h' | exact hq _ _ h'

theorem loopU_sound {c : Code} {F : (Exit → St → Prop) → St → Prop} (hF : ∀ Q s, F Q s → Tri G c Q s) {Q : Exit → St → Prop} (n : Nat) {s : St} (h : loopU F n Q s) : Tri G (.loop c) Q s :=
  Tri.loop (fun m s => loopU F m Q s) n h fun m s hm => by
    cases m with
    | zero => exact hm.elim
    | succ m =>
      refine (hF _ _ hm).mono fun e s' h => ?_
      cases e with
      | normal => exact ⟨m, Nat.lt_succ_self m, h⟩
      | _ => exact h

theorem loopInv_sound {c : Code} {F : (Exit → St → Prop) → St → Prop} (hF : ∀ Q s, F Q s → Tri G c Q s) {Q : Exit → St → Prop} {α : Type} {ok : α → Prop} {m : α → Nat} {T : α → List AV} {H : α → Heap} {s : St} (h : loopV (.inv α ok m T H) F Q s) : Tri G (.loop c) Q s := by
  obtain ⟨⟨a0, ho, hle⟩, hround⟩ := h
  intro ρ I a w hc hr
  have hdom : ∀ id, ρ id ≠ none → id < s.H.length := hc.dom
  simp only [fS_eq] at hround
  obtain ⟨hk0, hF0⟩ := cnd_iff.1 (hround a0 ho)
  simp only [Bool.and_eq_true, beq_iff_eq] at hk0
  refine wp_loopN (fun n a' w' => ∃ (b : α) (ρ' : Rho) (I' : Imm), ok b ∧ m b = n ∧ Good ρ I s.H w ρ' I' (H b) w' ∧ Conc G.g ρ' I' (H b) w' ∧ RelT ρ' I' w' (T b) a') (m a0) ?_ ?_
  · obtain ⟨ρ', g1, g2, g3⟩ := leS_sound hle hc hr hk0.2 (Good.refl _ _ _ _) hdom (Nat.le_refl _) hk0.1
    exact ⟨a0, ρ', I, ho, rfl, g1, g2, g3⟩
  · rintro n a1 w1 ⟨b, ρ1, I1, hob, rfl, hg, hC, hR⟩
    obtain ⟨hk1, hF1⟩ := cnd_iff.1 (hround b hob)
    refine wp_mono (hF _ _ hF1 ρ1 I1 a1 w1 hC hR) ?_
    rintro e a' w' ⟨ρ', I', s', k1, k2, k3, k4⟩
    cases e with
    | normal =>
      obtain ⟨b', ⟨hm, hob'⟩, hle'⟩ := k4
      obtain ⟨hk2, _⟩ := cnd_iff.1 (hround b' hob')
      simp only [Bool.and_eq_true, beq_iff_eq] at hk2
      obtain ⟨ρ2, g1, g2, g3⟩ := leS_sound hle' k2 k3 hk2.2 (hg.trans k1) hdom (Nat.le_refl _) hk2.1
      exact ⟨m b', hm, b', ρ2, I', hob', rfl, g1, g2, g3⟩
    | _ => exact ⟨ρ', I', s', hg.trans k1, k2, k3, k4⟩

theorem loopMv_sound {c : Code} {F : (Exit → St → Prop) → St → Prop} (hF : ∀ Q s, F Q s → Tri G c Q s) {Q : Exit → St → Prop} {keep gs : List Nat} {α : Type} {ok : List AV → α → Prop} {m : α → Nat} {ds : St → List AV}
    {T : Nat → α → List (Nat × AV)} {H : Nat → α → List (Nat × Ent)} {X : α → List Ent} {s : St} (h : loopV (.mv keep gs α ok m ds T H X) F Q s) : Tri G (.loop c) Q s := by
  obtain ⟨⟨a0, ho, hle⟩, hround⟩ := h
  intro ρ I a w hc hr
  have hdom : ∀ id, ρ id ≠ none → id < s.H.length := hc.dom
  simp only [fS_eq] at hround
  obtain ⟨hk0, hF0⟩ := cnd_iff.1 (hround a0 ho)
  simp only [beq_iff_eq] at hk0
  refine wp_loopN (fun n a' w' => ∃ (b : α) (ρ' : Rho) (I' : Imm), ok (gs.map fun i => s.t.getD i .any) b ∧ m b = n ∧ Good ρ I s.H w ρ' I' (updE s.H (H s.H.length b) ++ X b) w' ∧ Conc G.g ρ' I' (updE s.H (H s.H.length b) ++ X b) w' ∧ RelT ρ' I' w' (updT (keepT keep 0 s.t) (T s.H.length b)) a') (m a0) ?_ ?_
  · obtain ⟨ρ', g1, g2, g3⟩ := leM_sound hle hc hr (Good.refl _ _ _ _) hdom (Nat.le_refl _) hk0 (Nat.le_refl _)
    exact ⟨a0, ρ', I, ho, rfl, g1, g2, g3⟩
  · rintro n a1 w1 ⟨b, ρ1, I1, hob, rfl, hg, hC, hR⟩
    obtain ⟨hk1, hF1⟩ := cnd_iff.1 (hround b hob)
    refine wp_mono (hF _ _ hF1 ρ1 I1 a1 w1 hC hR) ?_
    rintro e a' w' ⟨ρ', I', s', k1, k2, k3, k4⟩
    cases e with
    | normal =>
      obtain ⟨b', ⟨hm, hob'⟩, hle'⟩ := k4
      obtain ⟨hlen, hle'⟩ := cnd_iff.1 hle'
      obtain ⟨hk2, _⟩ := cnd_iff.1 (hround b' hob')
      simp only [beq_iff_eq] at hk2
      obtain ⟨ρ2, g1, g2, g3⟩ := leM_sound hle' k2 k3 (hg.trans k1) hdom (Nat.le_refl _) hk2 (leB_iff.1 hlen)
      exact ⟨m b', hm, b', ρ2, I', hob', rfl, g1, g2, g3⟩
    | _ => exact ⟨ρ', I', s', hg.trans k1, k2, k3, k4⟩

theorem loopV_sound {c : Code} {F : (Exit → St → Prop) → St → Prop} (hF : ∀ Q s, F Q s → Tri G c Q s) {Q : Exit → St → Prop} (pl : LPlan) {s : St} (h : loopV pl F Q s) : Tri G (.loop c) Q s := by
  cases pl with
  | none => exact h.elim
  | unroll n => exact loopU_sound hF n h
  | inv α ok m T H => exact loopInv_sound hF h
  | invg α g ok m T H => exact loopInv_sound (ok := ok (s.t.getD g .any)) hF h
  | rel keep gs α ok m T H => exact loopInv_sound (ok := ok (gs.map fun i => s.t.getD i .any)) (T := fun a => updT (keepT keep 0 s.t) (T a)) (H := fun a => updE s.H (H a)) hF h
  | mv keep gs α ok m ds T H X => exact loopMv_sound hF h

/-- Kept numbers given back behind a piece of code. -/
theorem Tri.trimmed {c : Code} {Q : Exit → St → Prop} {s : St} (h : Tri G c (fun e s' => Q e ⟨s'.t, trim (s'.H.length - s.H.length) s'.H⟩) s) : Tri G c Q s := by
  intro ρ I a w hc hr
  refine wp_mono (h ρ I a w hc hr) ?_
  rintro e a' w' ⟨ρ', I', s', h1, h2, h3, h4⟩
  obtain ⟨g1, g2⟩ := trim_sound (s'.H.length - s.H.length) (H0 := s.H) (by have := h1.len; omega) h1 h2
  exact ⟨ρ', I', ⟨s'.t, trim (s'.H.length - s.H.length) s'.H⟩, g1, g2, h3, h4⟩

variable {R : ROps G} {T : Ctr G}

theorem condT_iff {t : List AV} {c : Operand} {x y : List AV → Prop} (h : condT t c (evA G t c) x y) : ∃ b, evA G t c = .bool b ∧ (b = true → x t) ∧ (b = false → y t) := by
  unfold condT at h
  split at h
  · rename_i b hb
    refine ⟨b, hb, ?_⟩
    split at h
    · rename_i d
      obtain ⟨h1, h2⟩ := ite2_iff.1 h
      have hb : t.getD d .any = .bool b := hb
      exact ⟨fun e => by
        have := h1 e
        rwa [setB_eq (by rw [hb, e])] at this, fun e => by
        have := h2 e
        rwa [setB_eq (by rw [hb, e])] at this⟩
    · exact ite2_iff.1 h
  · exact (stuckIn_no h).elim

theorem aw3_sound {cl : FuncId → List AV → St → Option Tmp → (St → Prop) → Prop} (hcl : ∀ f args s d K, cl f args s d K → callS G f args s d K) (L : Nat → LPlan) : ∀ (c : Code) {Q : Exit → St → Prop} {s : St}, aw3 G R T.C cl L c Q s → Tri G c Q s
  | .skip, _, _, h => Tri.skip h
  | .label _, _, _, h => Tri.label h
  | .exit _, _, _, h => Tri.exit h
  | .goto _, _, _, h => Tri.goto h
  | .ret, _, _, h => Tri.ret h
  | .seq x y, Q, s, h => Tri.seq ((aw3_sound hcl L x h).mono fun e s' h' => by
      cases e with
      | normal => exact aw3_sound hcl L y h'
      | _ => exact h')
  | .cond c x y, Q, s, h => by
      obtain ⟨b, h1, h2, h3⟩ := condT_iff h
      exact Tri.cond h1 (fun e => aw3_sound hcl L x (h2 e)) (fun e => aw3_sound hcl L y (h3 e))
  | .block id c, Q, s, h => Tri.block (aw3_sound hcl L c h)
  | .region _ ops false, Q, s, h => Tri.sregion hcl h
  | .region _ ops true, Q, s, h => Tri.drawL (R := R) (T := T) hcl h
  | .loop c, Q, s, h => loopV_sound (fun Q s h => aw3_sound hcl L c h) _ h
  | .rangeFunc _ _ _ _, _, _, h => h.elim
  | .scope _, _, _, h => h.elim
  | .refuse _, _, _, h => h.elim

theorem gc_sound {n : Nat} {v : AV} {x : Value} {H' : Heap} (c : Conc G.g ρ I H' w) (r : rel ρ I w v x) {ρ0 : Rho} {I0 : Imm} {H0 : Heap} {w0 : World} (gd : Good ρ0 I0 H0 w0 ρ I H' w) (hd : ∀ id, ρ0 id ≠ none → id < n) (hn : H0.length = n) :
    ∃ ρ', Good ρ0 I0 H0 w0 ρ' I (gcH n v H') w ∧ Conc G.g ρ' I (gcH n v H') w ∧ rel ρ' I w v x := by
  unfold gcH
  cases hb : refsA n v && refsOk n [] (H'.take n) with
  | false => exact ⟨ρ, gd, c, r⟩
  | true =>
    simp only [Bool.and_eq_true] at hb
    obtain ⟨c2, g2⟩ := cut_conc c n (refsOk_spec hb.2).2
    exact ⟨cutR n ρ, g2 gd hd (by omega), c2, rel_refs (fun i hi => by simp [cutR, hi]) hb.1 r⟩

/-- A body, as any piece of code. -/
theorem body_sound {f : FuncId} {fn : Func} {c : Code} (hf : P.funcs[f]? = some fn) (hb : fn.body = some c) {args : List AV} {H : Heap} {Rel : AV → Heap → Prop}
    (h : Tri G c (aend G fn Rel) ⟨args ++ List.replicate (fn.ntmps - args.length) (.tup []), H⟩) : ACall G f args H Rel := by
  intro ρ I w vs hc hr
  have hlen := RV_len hr
  refine calls_of_wp hf hb ?_
  refine wp_mono (h ρ I _ w hc ⟨?_, rfl⟩) ?_
  · simp only [Array.toList_append, Array.toList_replicate, List.size_toArray, ← hlen]
    exact RV_append hr (RV_replicate rel_undef _)
  · rintro e a' w' ⟨ρ', I', ⟨t', H'⟩, h1, h2, h3, h4⟩
    have key : ∀ (k : endO (aresults G ⟨t', H'⟩ fn.results.toList) fun v => Rel v H'),
        a'.defers = [] ∧ ∃ v, (results fn a'.tmps).run P w' = .ok v w' ∧ ∃ y, Ending.returned v = .returned y ∧ ∃ (ρ'' : Rho) (I'' : Imm) (v : AV) (H'' : Heap), Good ρ I H w ρ'' I'' H'' w' ∧ Conc G.g ρ'' I'' H'' w' ∧ rel ρ'' I'' w' v y ∧ Rel v H'' := by
      intro k
      unfold endO at k
      split at k
      · rename_i c l hl
        obtain ⟨k1, k2⟩ := cnd_iff.1 k
        obtain ⟨x, q1, q2⟩ := results_sound (p := (c, l)) h2 h3 hl k1
        exact ⟨h3.defers, x, q1, x, rfl, ρ', I', _, H', h1, h2, q2, k2⟩
      · exact k.elim
    cases e <;> first | exact key h4 | exact h4.elim

theorem cinl_sound (L : FuncId → Nat → LPlan) : ∀ (n : Nat) (f : FuncId) (args : List AV) (s : St) (d : Option Tmp) (K : St → Prop), cinl G R T.C L n f args s d K → callS G f args s d K
  | 0, _, _, _, _, _, h => (stuckIn_no h).elim
  | n + 1, f, args, s, d, K, h => by
    unfold cinl at h
    split at h
    · rename_i fn hf
      split at h
      · rename_i c hb
        have ha : ACall G f args s.H fun v H' => K ⟨putA s.t d v, gcH s.H.length v H'⟩ := body_sound hf hb (aw3_sound (cinl_sound L n) (L f) c (by
          simp only [fL_eq, fH_eq, fPut_eq] at h
          exact h))
        intro ρ I w a vs c r ra
        refine (ha ρ I w vs c ra).mono ?_
        rintro e w' ⟨x, rfl, ρ', I', v, H', g, c', hx, hk⟩
        obtain ⟨ρ2, g2, c2, r2⟩ := gc_sound (n := s.H.length) c' hx g (fun id h => c.dom id h) rfl
        have m2 : Mono ρ I w ρ2 I' w' := c.mono g2 g2.ext
        exact ⟨x, rfl, ρ2, I', ⟨_, gcH s.H.length v H'⟩, g2, c2, (r.mono m2).put d r2, hk⟩
      · exact h.elim
    · exact h.elim
end
end
end Go.V

/- The abstract layer (third state), part H: a contract off a walk; contracts put together. -/
set_option linter.unusedSimpArgs false
set_option linter.unusedVariables false
namespace Go.V
open Go
noncomputable section

theorem posIn_get : ∀ {ids : List Nat} {i : Nat}, ids.contains i = true → ids[posIn ids i]? = some i
  | [], _, h => by simp at h
  | a :: as, i, h => by
    unfold posIn
    cases hb : a == i with
    | true => simpa using hb
    | false =>
      have : as.contains i = true := by
        simp only [List.contains_cons, Bool.or_eq_true] at h
        rcases h with h | h
        · rw [beq_iff_eq] at h; subst h; simp at hb
        · exact h
      simpa using posIn_get this

theorem dedup_nodup : ∀ (l acc : List Nat), acc.Nodup → (dedup l acc).Nodup
  | [], acc, h => h
  | a :: as, acc, h => by
    unfold dedup
    cases hb : acc.contains a with
    | true => exact dedup_nodup as acc h
    | false =>
      refine dedup_nodup as _ ?_
      rw [List.nodup_append]
      refine ⟨h, by simp, fun x hx y hy => ?_⟩
      simp only [List.mem_singleton] at hy
      subst hy
      rintro rfl
      simp [List.contains_eq_mem, hx] at hb

section
variable {ρ ρ' : Rho} {I : Imm} {w : World}
mutual
theorem R_col {ids : List Nat} (hρ : ∀ k i, ids[k]? = some i → ρ' k = ρ i) : ∀ (a : AV) (xs : List Value), colOk ids a = true → R ρ I w a xs → R ρ' I w (colA ids a) xs
  | .sl id off k len, xs, ho, ⟨v, h0, h⟩ => by
    refine ⟨v, h0, ?_⟩
    rcases h with ⟨b, cap, h1, h2⟩ | h
    · exact .inl ⟨b, cap, by rw [hρ _ _ (posIn_get ho)]; exact h1, h2⟩
    · exact .inr h
  | .ptr id off, xs, ho, ⟨v, h0, b, h1, h2⟩ => ⟨v, h0, b, by rw [hρ _ _ (posIn_get ho)]; exact h1, h2⟩
  | .agg l, xs, ho, h => RL_col hρ l xs (by simpa [colOk] using ho) h
  | .tup l, xs, ho, ⟨v, h0, cs, h1, h2⟩ => ⟨v, h0, cs, h1, RV_col hρ l _ (by simpa [colOk] using ho) h2⟩
  | .any, xs, ho, h => R_refs (n := 0) (fun _ h => by omega) _ xs ho h
  | .raw _, xs, ho, h => R_refs (n := 0) (fun _ h => by omega) _ xs ho h
  | .int _ _, xs, ho, h => R_refs (n := 0) (fun _ h => by omega) _ xs ho h
  | .u8 _, xs, ho, h => R_refs (n := 0) (fun _ h => by omega) _ xs ho h
  | .u32 _, xs, ho, h => R_refs (n := 0) (fun _ h => by omega) _ xs ho h
  | .u64 _, xs, ho, h => R_refs (n := 0) (fun _ h => by omega) _ xs ho h
  | .bool _, xs, ho, h => R_refs (n := 0) (fun _ h => by omega) _ xs ho h
  | .str _, xs, ho, h => R_refs (n := 0) (fun _ h => by omega) _ xs ho h
  | .b8 _ _, xs, ho, h => R_refs (n := 0) (fun _ h => by omega) _ xs ho h
  | .w32 _ _, xs, ho, h => R_refs (n := 0) (fun _ h => by omega) _ xs ho h
  | .w64 _ _, xs, ho, h => R_refs (n := 0) (fun _ h => by omega) _ xs ho h
  | .n64 _ _, xs, ho, h => R_refs (n := 0) (fun _ h => by omega) _ xs ho h
  | .pix _ _ _ _, xs, ho, h => R_refs (n := 0) (fun _ h => by omega) _ xs ho h
  | .vec8 _ _, xs, ho, h => R_refs (n := 0) (fun _ h => by omega) _ xs ho h
  | .vec _ _ _, xs, ho, h => R_refs (n := 0) (fun _ h => by omega) _ xs ho h
  | .vecr _ _ _ _, xs, ho, h => R_refs (n := 0) (fun _ h => by omega) _ xs ho h
  | .slv id k n f, xs, ho, h => by
    obtain ⟨v, h0, k0, ⟨vs, k1, k2, k3⟩, k4⟩ := h
    refine ⟨v, h0, k0, ⟨vs, k1, fun i hi => RL_refs (n := 0) (fun _ h => by omega) _ _ (refsL_pure _ (okL_pure (k0 i hi)) 0) (k2 i hi), k3⟩, ?_⟩
    rcases k4 with ⟨b, cap, h1, h2⟩ | h
    · exact .inl ⟨b, cap, by rw [hρ _ _ (posIn_get ho)]; exact h1, h2⟩
    · exact .inr h
  | .vp _ _, xs, ho, h => R_refs (n := 0) (fun _ h => by omega) _ xs ho h
  | .vpx _ _ _ _, xs, ho, h => R_refs (n := 0) (fun _ h => by omega) _ xs ho h
  | .fn _ _ _, xs, ho, h => R_refs (n := 0) (fun _ h => by omega) _ xs ho h
theorem RL_col {ids : List Nat} (hρ : ∀ k i, ids[k]? = some i → ρ' k = ρ i) : ∀ (l : List AV) (xs : List Value), colOkL ids l = true → RL ρ I w l xs → RL ρ' I w (colL ids l) xs
  | [], _, _, h => h
  | a :: as, _, ho, ⟨ys, zs, h0, h1, h2⟩ => by
    simp only [colOkL, Bool.and_eq_true] at ho
    exact ⟨ys, zs, h0, R_col hρ a ys ho.1 h1, RL_col hρ as zs ho.2 h2⟩
theorem RV_col {ids : List Nat} (hρ : ∀ k i, ids[k]? = some i → ρ' k = ρ i) : ∀ (l : List AV) (vs : List Value), colOkL ids l = true → RV ρ I w l vs → RV ρ' I w (colL ids l) vs
  | [], _, _, h => h
  | a :: as, _, ho, ⟨x, xs, h0, h1, h2⟩ => by
    simp only [colOkL, Bool.and_eq_true] at ho
    refine ⟨x, xs, h0, ?_, RV_col hρ as xs ho.2 h2⟩
    have : ∀ ys, R ρ I w a ys → R ρ' I w (colA ids a) ys := fun ys => R_col hρ a ys ho.1
    cases a <;> simp only [colA, valOf] at h1 ⊢ <;> first | trivial | exact this _ h1 | (obtain ⟨cs, k1, k2⟩ := h1; exact ⟨cs, k1, this _ k2⟩)
end
end

section
variable {P : Program} {G : Env P} {R : ROps G} {T : Ctr G}

/-- A body from no memory. -/
theorem ACall.of_walk {L : FuncId → Nat → LPlan} {n : Nat} {f : FuncId} {args : List AV} {K : AV → Heap → Prop} (h : walk G R T.C L n f args K) : ACall G f args [] K := by
  unfold walk at h
  split at h
  · rename_i fn hf
    split at h
    · rename_i c hb
      have ha : ACall G f args [] (collectK K) := body_sound hf hb (aw3_sound (cinl_sound L n) (L f) c (by
        simp only [fL_eq] at h
        exact h))
      intro ρ I w vs hc hr
      -- nothing is owned: no number means anything
      have hnone : ∀ id, ρ id = none := fun id => Classical.byContradiction fun hn => by have := hc.dom id hn; simp at this
      have hρ0 : ρ = fun _ => none := funext hnone
      subst hρ0
      refine (ha _ I w vs hc hr).mono ?_
      rintro e w' ⟨x, rfl, ρ', I', v, H', g, c', hx, hk⟩
      unfold collectK at hk
      obtain ⟨hok, hK⟩ := cnd_iff.1 hk
      simp only [Bool.and_eq_true] at hok
      have hE : ∀ (ids : List Nat), colE H' ids = true → ∀ i ∈ ids, ∃ e, H'[i]? = some e ∧ e.live = true ∧ refsE 0 e = true := by
        intro ids
        induction ids with
        | nil => intro _ i hi; simp at hi
        | cons a as ih =>
          intro h i hi
          simp only [colE, Bool.and_eq_true] at h
          rcases List.mem_cons.1 hi with rfl | hi
          · have h1 := h.1
            split at h1
            · rename_i e he
              simp only [Bool.and_eq_true] at h1
              exact ⟨e, he, h1.1, h1.2⟩
            · simp at h1
          · exact ih h.2 i hi
      have hE' := hE _ hok.2
      obtain ⟨ρ2, q1, q2, q3⟩ := pick_conc c' (dedup (refsOf [v]) []) (dedup_nodup _ _ (by simp)) (fun i hi e he => by
        obtain ⟨e', h1, h2, h3⟩ := hE' i hi
        rw [h1] at he; simp at he; subst he; exact ⟨h2, h3⟩) (fun i hi => by
        obtain ⟨e', h1, _⟩ := hE' i hi
        exact (List.getElem?_eq_some_iff.1 h1).1)
      refine ⟨x, rfl, ρ2, I', _, _, q3 g, q2, ?_, hK⟩
      have hl : RV ρ2 I' w' (colL (dedup (refsOf [v]) []) [v]) [x] := RV_col q1 [v] [x] (by simp [colOkL, hok.1]) (RV_cons.2 ⟨x, [], rfl, hx, rfl⟩)
      obtain ⟨y, ys, k1, k2, _⟩ := RV_cons.1 hl
      simp only [List.cons.injEq] at k1
      obtain ⟨rfl, _⟩ := k1
      exact k2
    · exact h.elim
  · exact h.elim

/-- A contract off a walk. -/
theorem HCall.of_walk (L : FuncId → Nat → LPlan) (n : Nat) {f : FuncId} {args : List AV} {out : Out} (hp : pureL args = true) (ho : out.okB = true) (h : walk G R T.C L n f args out.has) : HCall G f args out :=
  ⟨hp, ho, ACall.of_walk h⟩

/-- No contract. -/
def Ctr.nil (G : Env P) : Ctr G := ⟨fun _ _ => none, fun _ _ _ _ h => by simp at h⟩

/-- One more contract. -/
def Ctr.add (T : Ctr G) (k : Nat) (c : List AV → Option (Bool × Out)) (ok : ∀ args pre out, c args = some (pre, out) → pre = true → HCall G k args out) : Ctr G where
  C := fun f args => bif f == k then c args else T.C f args
  ok := fun f args pre out h hp => by
    cases hb : f == k with
    | true =>
      rw [hb] at h
      have : f = k := by simpa using hb
      subst this
      exact ok args pre out h hp
    | false => rw [hb] at h; exact T.ok f args pre out h hp

/-- No operation on slices. -/
def ROps.nil (G : Env P) : ROps G := { f := fun _ _ _ _ => none, congr := fun _ _ _ _ _ _ _ _ => rfl, sound := fun _ _ _ _ _ _ _ _ _ _ _ _ _ h => by simp at h }
end
end
end Go.V

/- The abstract layer (third state), part I: contracts in use. -/
set_option linter.unusedSimpArgs false
set_option linter.unusedVariables false
namespace Go.V
open Go

/-- Rows are as long as they say. -/
def lenOk : AV → Prop
  | .b8 n l => l.length = n
  | .w32 n l => l.length = n
  | .w64 n l => l.length = n
  | .n64 n l => l.length = n
  | _ => True

section
variable {P : Program} {G : Env P}
theorem rel_lenOk {ρ : Rho} {I : Imm} {w : World} {a : AV} {v : Value} (h : rel ρ I w a v) : lenOk a := by
  cases a <;> first | trivial | (obtain ⟨_, _, _, h⟩ := h; exact h)
theorem RV_lenOk {ρ : Rho} {I : Imm} {w : World} : ∀ {l : List AV} {vs : List Value}, RV ρ I w l vs → ∀ a ∈ l, lenOk a
  | [], _, _, a, ha => by simp at ha
  | b :: bs, _, ⟨x, xs, h0, h1, h2⟩, a, ha => by
    rcases List.mem_cons.1 ha with rfl | ha
    · exact rel_lenOk h1
    · exact RV_lenOk h2 a ha

/-- Nothing is to be shown where rows are not as long as they say. -/
theorem HCall.of_len {f : FuncId} {args : List AV} {out : Out} (hp : pureL args = true) (ho : out.okB = true) (h : (∀ a ∈ args, lenOk a) → HCall G f args out) : HCall G f args out := by
  refine ⟨hp, ho, fun ρ I w vs c r => ?_⟩
  exact (h (RV_lenOk r)).call ρ I w vs c r
theorem has_ret {v v' : AV} {H H' : Heap} : (Out.ret v H).has v' H' ↔ v' = v ∧ H' = H := Iff.rfl
theorem has_alt {b : Bool} {x y : Out} {v' : AV} {H' : Heap} : (Out.alt b x y).has v' H' ↔ (b = true → x.has v' H') ∧ (b = false → y.has v' H') := by
  cases b <;> simp [Out.has]
theorem has_refl {v : AV} {H : Heap} : (Out.ret v H).has v H := ⟨rfl, rfl⟩
/-- Pick by cases, as a rule of logic. -/
theorem ite2_eq {b : Bool} {x y : Prop} : ite2 b x y = ((b = true → x) ∧ (b = false → y)) := propext ite2_iff
theorem cnd_eq {b : Bool} {x : Prop} : cnd b x = (b = true ∧ x) := propext cnd_iff
end
end Go.V

/- This seat's translation as the abstract layer knows it (wip tools env.py): types, functions, package-level variables. -/
set_option linter.unusedSimpArgs false
set_option linter.unusedVariables false
namespace Go.Proofs
open Go Go.V

def Tryd.ti2 : TI := ⟨1, 8, .int .i64, some (.int .i64 0), false, false⟩
def Tryd.ti3 : TI := ⟨1, 8, .int .i64, some (.int .i64 0), false, false⟩
def Tryd.ti4 : TI := ⟨1, 1, .bool, some (.bool false), false, false⟩
def Tryd.ti5 : TI := ⟨1, 1, .int .u8, some (.u8 0), false, false⟩
def Tryd.ti6 : TI := ⟨1, 1, .int .u8, some (.u8 0), false, false⟩
def Tryd.ti7 : TI := ⟨4, 24, .str [(0, 2), (1, 3), (2, 4), (3, 6)], some (.agg [.int .i64 0, .int .i64 0, .bool false, .u8 0]), false, false⟩
def Tryd.ti8 : TI := ⟨4, 24, .str [(0, 2), (1, 3), (2, 4), (3, 6)], some (.agg [.int .i64 0, .int .i64 0, .bool false, .u8 0]), false, false⟩
def Tryd.ti9 : TI := ⟨1, 16, .string, some (.str []), false, false⟩
def Tryd.ti10 : TI := ⟨1, 16, .string, some (.str []), false, false⟩
def Tryd.ti11 : TI := ⟨1, 16, .string, some (.str []), false, false⟩
def Tryd.ti12 : TI := ⟨1, 8, .int .u64, some (.u64 0), false, false⟩
def Tryd.ti13 : TI := ⟨2, 24, .str [(0, 9), (1, 12)], some (.agg [.str [], .u64 0]), false, false⟩
def Tryd.ti14 : TI := ⟨2, 24, .str [(0, 9), (1, 12)], some (.agg [.str [], .u64 0]), false, false⟩
def Tryd.ti15 : TI := ⟨1, 8, .ptr 115, some (.raw (.pointer none)), false, false⟩
def Tryd.ti16 : TI := ⟨1, 8, .ptr 118, some (.raw (.pointer none)), false, false⟩
def Tryd.ti17 : TI := ⟨1, 8, .ptr 127, some (.raw (.pointer none)), false, false⟩
def Tryd.ti18 : TI := ⟨1, 8, .str [(0, 17)], some (.agg [.raw (.pointer none)]), false, false⟩
def Tryd.ti19 : TI := ⟨1, 8, .str [(0, 17)], some (.agg [.raw (.pointer none)]), false, false⟩
def Tryd.ti21 : TI := ⟨1, 4, .int .i32, some (.int .i32 0), false, false⟩
def Tryd.ti22 : TI := ⟨1, 24, .slice 5, some (.vec8 true []), false, false⟩
def Tryd.ti24 : TI := ⟨1, 4, .int .u32, some (.u32 0), false, false⟩
def Tryd.ti25 : TI := ⟨8, 32, .arr 8 24, some (.w32 8 [0, 0, 0, 0, 0, 0, 0, 0]), true, false⟩
def Tryd.ti26 : TI := ⟨64, 64, .arr 64 5, some (.b8 64 (List.replicate 64 0)), true, false⟩
def Tryd.ti27 : TI := ⟨74, 112, .str [(0, 25), (8, 26), (72, 3), (73, 3)], some (.agg [.w32 8 [0, 0, 0, 0, 0, 0, 0, 0], .b8 64 (List.replicate 64 0), .int .i64 0, .int .i64 0]), true, true⟩
def Tryd.ti28 : TI := ⟨74, 112, .str [(0, 25), (8, 26), (72, 3), (73, 3)], some (.agg [.w32 8 [0, 0, 0, 0, 0, 0, 0, 0], .b8 64 (List.replicate 64 0), .int .i64 0, .int .i64 0]), true, true⟩
def Tryd.ti30 : TI := ⟨1, 24, .slice 22, some (.vec true 1 []), false, false⟩
def Tryd.ti31 : TI := ⟨1, 8, .int .i64, some (.int .i64 0), false, false⟩
def Tryd.ti34 : TI := ⟨32, 32, .arr 32 5, some (.b8 32 [0, 0, 0, 0, 0, 0, 0, 0, 0, 0, 0, 0, 0, 0, 0, 0, 0, 0, 0, 0, 0, 0, 0, 0, 0, 0, 0, 0, 0, 0, 0, 0]), true, false⟩
def Tryd.ti35 : TI := ⟨32, 32, .arr 32 5, some (.b8 32 [0, 0, 0, 0, 0, 0, 0, 0, 0, 0, 0, 0, 0, 0, 0, 0, 0, 0, 0, 0, 0, 0, 0, 0, 0, 0, 0, 0, 0, 0, 0, 0]), true, false⟩
def Tryd.ti41 : TI := ⟨1, 24, .slice 9, some (.vec true 1 []), false, false⟩
def Tryd.ti43 : TI := ⟨1, 24, .slice 53, some (.vec true 4 []), false, false⟩
def Tryd.ti44 : TI := ⟨1, 8, .int .u64, some (.u64 0), false, false⟩
def Tryd.ti45 : TI := ⟨34, 48, .str [(0, 4), (1, 35), (33, 44)], some (.agg [.bool false, .b8 32 [0, 0, 0, 0, 0, 0, 0, 0, 0, 0, 0, 0, 0, 0, 0, 0, 0, 0, 0, 0, 0, 0, 0, 0, 0, 0, 0, 0, 0, 0, 0, 0], .u64 0]), true, true⟩
def Tryd.ti46 : TI := ⟨34, 48, .str [(0, 4), (1, 35), (33, 44)], some (.agg [.bool false, .b8 32 [0, 0, 0, 0, 0, 0, 0, 0, 0, 0, 0, 0, 0, 0, 0, 0, 0, 0, 0, 0, 0, 0, 0, 0, 0, 0, 0, 0, 0, 0, 0, 0], .u64 0]), true, true⟩
def Tryd.ti47 : TI := ⟨98, 112, .str [(0, 46), (34, 35), (66, 35)], some (.agg [.agg [.bool false, .b8 32 [0, 0, 0, 0, 0, 0, 0, 0, 0, 0, 0, 0, 0, 0, 0, 0, 0, 0, 0, 0, 0, 0, 0, 0, 0, 0, 0, 0, 0, 0, 0, 0], .u64 0], .b8 32 [0, 0, 0, 0, 0, 0, 0, 0, 0, 0, 0, 0, 0, 0, 0, 0, 0, 0, 0, 0, 0, 0, 0, 0, 0, 0, 0, 0, 0, 0, 0, 0], .b8 32 [0, 0, 0, 0, 0, 0, 0, 0, 0, 0, 0, 0, 0, 0, 0, 0, 0, 0, 0, 0, 0, 0, 0, 0, 0, 0, 0, 0, 0, 0, 0, 0]]), true, true⟩
def Tryd.ti48 : TI := ⟨98, 112, .str [(0, 46), (34, 35), (66, 35)], some (.agg [.agg [.bool false, .b8 32 [0, 0, 0, 0, 0, 0, 0, 0, 0, 0, 0, 0, 0, 0, 0, 0, 0, 0, 0, 0, 0, 0, 0, 0, 0, 0, 0, 0, 0, 0, 0, 0], .u64 0], .b8 32 [0, 0, 0, 0, 0, 0, 0, 0, 0, 0, 0, 0, 0, 0, 0, 0, 0, 0, 0, 0, 0, 0, 0, 0, 0, 0, 0, 0, 0, 0, 0, 0], .b8 32 [0, 0, 0, 0, 0, 0, 0, 0, 0, 0, 0, 0, 0, 0, 0, 0, 0, 0, 0, 0, 0, 0, 0, 0, 0, 0, 0, 0, 0, 0, 0, 0]]), true, true⟩
def Tryd.ti52 : TI := ⟨4, 40, .str [(0, 3), (1, 3), (2, 3), (3, 9)], some (.agg [.int .i64 0, .int .i64 0, .int .i64 0, .str []]), true, true⟩
def Tryd.ti53 : TI := ⟨4, 40, .str [(0, 3), (1, 3), (2, 3), (3, 9)], some (.agg [.int .i64 0, .int .i64 0, .int .i64 0, .str []]), true, true⟩
def Tryd.ti57 : TI := ⟨68, 96, .arr 2 46, some (.agg [.agg [.bool false, .b8 32 [0, 0, 0, 0, 0, 0, 0, 0, 0, 0, 0, 0, 0, 0, 0, 0, 0, 0, 0, 0, 0, 0, 0, 0, 0, 0, 0, 0, 0, 0, 0, 0], .u64 0], .agg [.bool false, .b8 32 [0, 0, 0, 0, 0, 0, 0, 0, 0, 0, 0, 0, 0, 0, 0, 0, 0, 0, 0, 0, 0, 0, 0, 0, 0, 0, 0, 0, 0, 0, 0, 0], .u64 0]]), true, false⟩
def Tryd.ti62 : TI := ⟨64, 64, .arr 2 35, some (.agg [.b8 32 [0, 0, 0, 0, 0, 0, 0, 0, 0, 0, 0, 0, 0, 0, 0, 0, 0, 0, 0, 0, 0, 0, 0, 0, 0, 0, 0, 0, 0, 0, 0, 0], .b8 32 [0, 0, 0, 0, 0, 0, 0, 0, 0, 0, 0, 0, 0, 0, 0, 0, 0, 0, 0, 0, 0, 0, 0, 0, 0, 0, 0, 0, 0, 0, 0, 0]]), true, false⟩
def Tryd.ti65 : TI := ⟨96, 96, .arr 3 35, some (.agg [.b8 32 [0, 0, 0, 0, 0, 0, 0, 0, 0, 0, 0, 0, 0, 0, 0, 0, 0, 0, 0, 0, 0, 0, 0, 0, 0, 0, 0, 0, 0, 0, 0, 0], .b8 32 [0, 0, 0, 0, 0, 0, 0, 0, 0, 0, 0, 0, 0, 0, 0, 0, 0, 0, 0, 0, 0, 0, 0, 0, 0, 0, 0, 0, 0, 0, 0, 0], .b8 32 [0, 0, 0, 0, 0, 0, 0, 0, 0, 0, 0, 0, 0, 0, 0, 0, 0, 0, 0, 0, 0, 0, 0, 0, 0, 0, 0, 0, 0, 0, 0, 0]]), true, false⟩
def Tryd.ti69 : TI := ⟨16, 64, .arr 16 24, some (.w32 16 [0, 0, 0, 0, 0, 0, 0, 0, 0, 0, 0, 0, 0, 0, 0, 0]), true, false⟩
def Tryd.ti70 : TI := ⟨1, 8, .int .u64, some (.u64 0), false, false⟩
def Tryd.ti73 : TI := ⟨16, 128, .arr 16 3, some (.agg [.int .i64 0, .int .i64 0, .int .i64 0, .int .i64 0, .int .i64 0, .int .i64 0, .int .i64 0, .int .i64 0, .int .i64 0, .int .i64 0, .int .i64 0, .int .i64 0, .int .i64 0, .int .i64 0, .int .i64 0, .int .i64 0]), true, false⟩
def Tryd.ti74 : TI := ⟨160, 1280, .arr 10 73, some (.agg [.agg [.int .i64 0, .int .i64 0, .int .i64 0, .int .i64 0, .int .i64 0, .int .i64 0, .int .i64 0, .int .i64 0, .int .i64 0, .int .i64 0, .int .i64 0, .int .i64 0, .int .i64 0, .int .i64 0, .int .i64 0, .int .i64 0], .agg [.int .i64 0, .int .i64 0, .int .i64 0, .int .i64 0, .int .i64 0, .int .i64 0, .int .i64 0, .int .i64 0, .int .i64 0, .int .i64 0, .int .i64 0, .int .i64 0, .int .i64 0, .int .i64 0, .int .i64 0, .int .i64 0], .agg [.int .i64 0, .int .i64 0, .int .i64 0, .int .i64 0, .int .i64 0, .int .i64 0, .int .i64 0, .int .i64 0, .int .i64 0, .int .i64 0, .int .i64 0, .int .i64 0, .int .i64 0, .int .i64 0, .int .i64 0, .int .i64 0], .agg [.int .i64 0, .int .i64 0, .int .i64 0, .int .i64 0, .int .i64 0, .int .i64 0, .int .i64 0, .int .i64 0, .int .i64 0, .int .i64 0, .int .i64 0, .int .i64 0, .int .i64 0, .int .i64 0, .int .i64 0, .int .i64 0], .agg [.int .i64 0, .int .i64 0, .int .i64 0, .int .i64 0, .int .i64 0, .int .i64 0, .int .i64 0, .int .i64 0, .int .i64 0, .int .i64 0, .int .i64 0, .int .i64 0, .int .i64 0, .int .i64 0, .int .i64 0, .int .i64 0], .agg [.int .i64 0, .int .i64 0, .int .i64 0, .int .i64 0, .int .i64 0, .int .i64 0, .int .i64 0, .int .i64 0, .int .i64 0, .int .i64 0, .int .i64 0, .int .i64 0, .int .i64 0, .int .i64 0, .int .i64 0, .int .i64 0], .agg [.int .i64 0, .int .i64 0, .int .i64 0, .int .i64 0, .int .i64 0, .int .i64 0, .int .i64 0, .int .i64 0, .int .i64 0, .int .i64 0, .int .i64 0, .int .i64 0, .int .i64 0, .int .i64 0, .int .i64 0, .int .i64 0], .agg [.int .i64 0, .int .i64 0, .int .i64 0, .int .i64 0, .int .i64 0, .int .i64 0, .int .i64 0, .int .i64 0, .int .i64 0, .int .i64 0, .int .i64 0, .int .i64 0, .int .i64 0, .int .i64 0, .int .i64 0, .int .i64 0], .agg [.int .i64 0, .int .i64 0, .int .i64 0, .int .i64 0, .int .i64 0, .int .i64 0, .int .i64 0, .int .i64 0, .int .i64 0, .int .i64 0, .int .i64 0, .int .i64 0, .int .i64 0, .int .i64 0, .int .i64 0, .int .i64 0], .agg [.int .i64 0, .int .i64 0, .int .i64 0, .int .i64 0, .int .i64 0, .int .i64 0, .int .i64 0, .int .i64 0, .int .i64 0, .int .i64 0, .int .i64 0, .int .i64 0, .int .i64 0, .int .i64 0, .int .i64 0, .int .i64 0]]), true, false⟩
def Tryd.ti81 : TI := ⟨12, 12, .arr 12 5, some (.b8 12 [0, 0, 0, 0, 0, 0, 0, 0, 0, 0, 0, 0]), true, false⟩
def Tryd.ti84 : TI := ⟨16, 16, .arr 16 5, some (.b8 16 [0, 0, 0, 0, 0, 0, 0, 0, 0, 0, 0, 0, 0, 0, 0, 0]), true, false⟩
def Tryd.ti90 : TI := ⟨16, 64, .arr 16 24, some (.w32 16 [0, 0, 0, 0, 0, 0, 0, 0, 0, 0, 0, 0, 0, 0, 0, 0]), true, false⟩
def Tryd.ti93 : TI := ⟨1, 8, .ptr 90, some (.raw (.pointer none)), false, false⟩
def Tryd.ti94 : TI := ⟨2, 16, .arr 2 44, some (.w64 2 [0, 0]), true, false⟩
def Tryd.ti95 : TI := ⟨3, 24, .arr 3 44, some (.w64 3 [0, 0, 0]), true, false⟩
def Tryd.ti96 : TI := ⟨24, 80, .str [(0, 94), (2, 94), (4, 95), (7, 84), (23, 3)], some (.agg [.w64 2 [0, 0], .w64 2 [0, 0], .w64 3 [0, 0, 0], .b8 16 [0, 0, 0, 0, 0, 0, 0, 0, 0, 0, 0, 0, 0, 0, 0, 0], .int .i64 0]), true, true⟩
def Tryd.ti97 : TI := ⟨24, 80, .str [(0, 94), (2, 94), (4, 95), (7, 84), (23, 3)], some (.agg [.w64 2 [0, 0], .w64 2 [0, 0], .w64 3 [0, 0, 0], .b8 16 [0, 0, 0, 0, 0, 0, 0, 0, 0, 0, 0, 0, 0, 0, 0, 0], .int .i64 0]), true, true⟩
def Tryd.ti111 : TI := ⟨5, 40, .arr 5 44, some (.w64 5 [0, 0, 0, 0, 0]), true, false⟩
def Tryd.ti114 : TI := ⟨4, 40, .str [(0, 17), (1, 17), (2, 17), (3, 9)], some (.agg [.raw (.pointer none), .raw (.pointer none), .raw (.pointer none), .str []]), false, false⟩
def Tryd.ti115 : TI := ⟨4, 40, .str [(0, 17), (1, 17), (2, 17), (3, 9)], some (.agg [.raw (.pointer none), .raw (.pointer none), .raw (.pointer none), .str []]), false, false⟩
def Tryd.ti116 : TI := ⟨0, 0, .arr 0 16, some (.agg []), false, false⟩
def Tryd.ti117 : TI := ⟨0, 0, .str [(0, 116)], some (.agg []), false, false⟩
def Tryd.ti118 : TI := ⟨0, 0, .str [(0, 116)], some (.agg []), false, false⟩
def Tryd.ti120 : TI := ⟨1, 1, .int .u8, some (.u8 0), false, false⟩
def Tryd.ti121 : TI := ⟨1, 1, .int .u8, some (.u8 0), false, false⟩
def Tryd.ti123 : TI := ⟨1, 8, .ptr 5, some (.raw (.pointer none)), false, false⟩
def Tryd.ti124 : TI := ⟨1, 4, .int .i32, some (.int .i32 0), false, false⟩
def Tryd.ti125 : TI := ⟨1, 4, .int .i32, some (.int .i32 0), false, false⟩
def Tryd.ti126 : TI := ⟨11, 48, .str [(0, 12), (1, 12), (2, 24), (3, 120), (4, 5), (5, 5), (6, 121), (7, 122), (8, 123), (9, 124), (10, 125)], some (.agg [.u64 0, .u64 0, .u32 0, .u8 0, .u8 0, .u8 0, .u8 0, .raw .nilFunc, .raw (.pointer none), .int .i32 0, .int .i32 0]), false, false⟩
def Tryd.ti127 : TI := ⟨11, 48, .str [(0, 12), (1, 12), (2, 24), (3, 120), (4, 5), (5, 5), (6, 121), (7, 122), (8, 123), (9, 124), (10, 125)], some (.agg [.u64 0, .u64 0, .u32 0, .u8 0, .u8 0, .u8 0, .u8 0, .raw .nilFunc, .raw (.pointer none), .int .i32 0, .int .i32 0]), false, false⟩
def Tryd.tis : List (Option TI) := [none, none, some Tryd.ti2, some Tryd.ti3, some Tryd.ti4, some Tryd.ti5, some Tryd.ti6, some Tryd.ti7, some Tryd.ti8, some Tryd.ti9, some Tryd.ti10, some Tryd.ti11, some Tryd.ti12, some Tryd.ti13, some Tryd.ti14, some Tryd.ti15, some Tryd.ti16, some Tryd.ti17, some Tryd.ti18, some Tryd.ti19, none, some Tryd.ti21, some Tryd.ti22, none, some Tryd.ti24, some Tryd.ti25, some Tryd.ti26, some Tryd.ti27, some Tryd.ti28, none, some Tryd.ti30, some Tryd.ti31, none, none, some Tryd.ti34, some Tryd.ti35, none, none, none, none, none, some Tryd.ti41, none, some Tryd.ti43, some Tryd.ti44, some Tryd.ti45, some Tryd.ti46, some Tryd.ti47, some Tryd.ti48, none, none, none, some Tryd.ti52, some Tryd.ti53, none, none, none, some Tryd.ti57, none, none, none, none, some Tryd.ti62, none, none, some Tryd.ti65, none, none, none, some Tryd.ti69, some Tryd.ti70, none, none, some Tryd.ti73, some Tryd.ti74, none, none, none, none, none, none, some Tryd.ti81, none, none, some Tryd.ti84, none, none, none, none, none, some Tryd.ti90, none, none, some Tryd.ti93, some Tryd.ti94, some Tryd.ti95, some Tryd.ti96, some Tryd.ti97, none, none, none, none, none, none, none, none, none, none, none, none, none, some Tryd.ti111, none, none, some Tryd.ti114, some Tryd.ti115, some Tryd.ti116, some Tryd.ti117, some Tryd.ti118, none, some Tryd.ti120, some Tryd.ti121, none, some Tryd.ti123, some Tryd.ti124, some Tryd.ti125, some Tryd.ti126, some Tryd.ti127, none]
theorem Tryd.tisOk : ((List.range Tryd.tis.length).all fun t => match Tryd.tis[t]? with | some (some i) => tiOkB Tryd.prog t i | _ => true) = true := by kernel_rfl
def Tryd.gos : List Nat := [3, 4, 5, 6, 7, 8, 9, 10, 11, 12, 13, 14, 15, 16, 17, 18, 19, 20, 21, 22, 23, 24, 25, 26, 27, 28, 29, 30, 31, 32, 33, 34, 35, 36, 37, 38, 39, 40, 41, 42, 43, 44, 45, 46, 47, 48, 49, 50, 51, 52, 54, 55, 56]
theorem Tryd.gosOk : Tryd.gos.all (goFnB Tryd.prog) = true := by kernel_rfl
def Tryd.xk (f : Nat) : FK := bif f == 53 then FK.add64 else FK.go
theorem Tryd.addOk : ∀ f, Tryd.xk f = .add64 → IsExt Tryd.prog f add64Entry := by
  intro f h
  by_cases e53 : f = 53
  · subst e53; exact fun args w => run_callFunc_extern Tryd.func53 (by kernel_rfl) (by kernel_rfl) (by kernel_rfl) (by kernel_rfl) args w
  have : Tryd.xk f = .go := by
    unfold Tryd.xk
    rw [show (f == 53) = false by simpa using e53]
    rfl
  rw [this] at h; exact absurd h (by decide)
theorem Tryd.subOk : ∀ f, Tryd.xk f = .sub64 → IsExt Tryd.prog f sub64Entry := by
  intro f h
  by_cases e53 : f = 53
  · subst e53; exact absurd h (by decide)
  have : Tryd.xk f = .go := by
    unfold Tryd.xk
    rw [show (f == 53) = false by simpa using e53]
    rfl
  rw [this] at h; exact absurd h (by decide)
def Tryd.gl (g : Nat) : Option (List AV) := bif g == 0 then some [.w32 8 Go.Bla.iv] else bif g == 1 then some [.n64 160 Go.Bla.ordersL] else none
def Tryd.E : Env Tryd.prog where
  ty := fun t => (Tryd.tis[t]?).join
  g := Tryd.gl
  x := Tryd.xk
  go := fun f => Tryd.gos.contains f
  tyOk := tyOk_of Tryd.tisOk
  addOk := Tryd.addOk
  subOk := Tryd.subOk
  goOk := fun f h => goFn_of (List.all_eq_true.1 Tryd.gosOk f (by simpa using h))
  follows := by kernel_rfl
theorem Tryd.E_ty2 : Tryd.E.ty 2 = some ⟨1, 8, .int .i64, some (.int .i64 0), false, false⟩ := rfl
theorem Tryd.E_ty3 : Tryd.E.ty 3 = some ⟨1, 8, .int .i64, some (.int .i64 0), false, false⟩ := rfl
theorem Tryd.E_ty4 : Tryd.E.ty 4 = some ⟨1, 1, .bool, some (.bool false), false, false⟩ := rfl
theorem Tryd.E_ty5 : Tryd.E.ty 5 = some ⟨1, 1, .int .u8, some (.u8 0), false, false⟩ := rfl
theorem Tryd.E_ty6 : Tryd.E.ty 6 = some ⟨1, 1, .int .u8, some (.u8 0), false, false⟩ := rfl
theorem Tryd.E_ty7 : Tryd.E.ty 7 = some ⟨4, 24, .str [(0, 2), (1, 3), (2, 4), (3, 6)], some (.agg [.int .i64 0, .int .i64 0, .bool false, .u8 0]), false, false⟩ := rfl
theorem Tryd.E_ty8 : Tryd.E.ty 8 = some ⟨4, 24, .str [(0, 2), (1, 3), (2, 4), (3, 6)], some (.agg [.int .i64 0, .int .i64 0, .bool false, .u8 0]), false, false⟩ := rfl
theorem Tryd.E_ty9 : Tryd.E.ty 9 = some ⟨1, 16, .string, some (.str []), false, false⟩ := rfl
theorem Tryd.E_ty10 : Tryd.E.ty 10 = some ⟨1, 16, .string, some (.str []), false, false⟩ := rfl
theorem Tryd.E_ty11 : Tryd.E.ty 11 = some ⟨1, 16, .string, some (.str []), false, false⟩ := rfl
theorem Tryd.E_ty12 : Tryd.E.ty 12 = some ⟨1, 8, .int .u64, some (.u64 0), false, false⟩ := rfl
theorem Tryd.E_ty13 : Tryd.E.ty 13 = some ⟨2, 24, .str [(0, 9), (1, 12)], some (.agg [.str [], .u64 0]), false, false⟩ := rfl
theorem Tryd.E_ty14 : Tryd.E.ty 14 = some ⟨2, 24, .str [(0, 9), (1, 12)], some (.agg [.str [], .u64 0]), false, false⟩ := rfl
theorem Tryd.E_ty15 : Tryd.E.ty 15 = some ⟨1, 8, .ptr 115, some (.raw (.pointer none)), false, false⟩ := rfl
theorem Tryd.E_ty16 : Tryd.E.ty 16 = some ⟨1, 8, .ptr 118, some (.raw (.pointer none)), false, false⟩ := rfl
theorem Tryd.E_ty17 : Tryd.E.ty 17 = some ⟨1, 8, .ptr 127, some (.raw (.pointer none)), false, false⟩ := rfl
theorem Tryd.E_ty18 : Tryd.E.ty 18 = some ⟨1, 8, .str [(0, 17)], some (.agg [.raw (.pointer none)]), false, false⟩ := rfl
theorem Tryd.E_ty19 : Tryd.E.ty 19 = some ⟨1, 8, .str [(0, 17)], some (.agg [.raw (.pointer none)]), false, false⟩ := rfl
theorem Tryd.E_ty21 : Tryd.E.ty 21 = some ⟨1, 4, .int .i32, some (.int .i32 0), false, false⟩ := rfl
theorem Tryd.E_ty22 : Tryd.E.ty 22 = some ⟨1, 24, .slice 5, some (.vec8 true []), false, false⟩ := rfl
theorem Tryd.E_ty24 : Tryd.E.ty 24 = some ⟨1, 4, .int .u32, some (.u32 0), false, false⟩ := rfl
theorem Tryd.E_ty25 : Tryd.E.ty 25 = some ⟨8, 32, .arr 8 24, some (.w32 8 [0, 0, 0, 0, 0, 0, 0, 0]), true, false⟩ := rfl
theorem Tryd.E_ty26 : Tryd.E.ty 26 = some ⟨64, 64, .arr 64 5, some (.b8 64 (List.replicate 64 0)), true, false⟩ := rfl
theorem Tryd.E_ty27 : Tryd.E.ty 27 = some ⟨74, 112, .str [(0, 25), (8, 26), (72, 3), (73, 3)], some (.agg [.w32 8 [0, 0, 0, 0, 0, 0, 0, 0], .b8 64 (List.replicate 64 0), .int .i64 0, .int .i64 0]), true, true⟩ := rfl
theorem Tryd.E_ty28 : Tryd.E.ty 28 = some ⟨74, 112, .str [(0, 25), (8, 26), (72, 3), (73, 3)], some (.agg [.w32 8 [0, 0, 0, 0, 0, 0, 0, 0], .b8 64 (List.replicate 64 0), .int .i64 0, .int .i64 0]), true, true⟩ := rfl
theorem Tryd.E_ty30 : Tryd.E.ty 30 = some ⟨1, 24, .slice 22, some (.vec true 1 []), false, false⟩ := rfl
theorem Tryd.E_ty31 : Tryd.E.ty 31 = some ⟨1, 8, .int .i64, some (.int .i64 0), false, false⟩ := rfl
theorem Tryd.E_ty34 : Tryd.E.ty 34 = some ⟨32, 32, .arr 32 5, some (.b8 32 [0, 0, 0, 0, 0, 0, 0, 0, 0, 0, 0, 0, 0, 0, 0, 0, 0, 0, 0, 0, 0, 0, 0, 0, 0, 0, 0, 0, 0, 0, 0, 0]), true, false⟩ := rfl
theorem Tryd.E_ty35 : Tryd.E.ty 35 = some ⟨32, 32, .arr 32 5, some (.b8 32 [0, 0, 0, 0, 0, 0, 0, 0, 0, 0, 0, 0, 0, 0, 0, 0, 0, 0, 0, 0, 0, 0, 0, 0, 0, 0, 0, 0, 0, 0, 0, 0]), true, false⟩ := rfl
theorem Tryd.E_ty41 : Tryd.E.ty 41 = some ⟨1, 24, .slice 9, some (.vec true 1 []), false, false⟩ := rfl
theorem Tryd.E_ty43 : Tryd.E.ty 43 = some ⟨1, 24, .slice 53, some (.vec true 4 []), false, false⟩ := rfl
theorem Tryd.E_ty44 : Tryd.E.ty 44 = some ⟨1, 8, .int .u64, some (.u64 0), false, false⟩ := rfl
theorem Tryd.E_ty45 : Tryd.E.ty 45 = some ⟨34, 48, .str [(0, 4), (1, 35), (33, 44)], some (.agg [.bool false, .b8 32 [0, 0, 0, 0, 0, 0, 0, 0, 0, 0, 0, 0, 0, 0, 0, 0, 0, 0, 0, 0, 0, 0, 0, 0, 0, 0, 0, 0, 0, 0, 0, 0], .u64 0]), true, true⟩ := rfl
theorem Tryd.E_ty46 : Tryd.E.ty 46 = some ⟨34, 48, .str [(0, 4), (1, 35), (33, 44)], some (.agg [.bool false, .b8 32 [0, 0, 0, 0, 0, 0, 0, 0, 0, 0, 0, 0, 0, 0, 0, 0, 0, 0, 0, 0, 0, 0, 0, 0, 0, 0, 0, 0, 0, 0, 0, 0], .u64 0]), true, true⟩ := rfl
theorem Tryd.E_ty47 : Tryd.E.ty 47 = some ⟨98, 112, .str [(0, 46), (34, 35), (66, 35)], some (.agg [.agg [.bool false, .b8 32 [0, 0, 0, 0, 0, 0, 0, 0, 0, 0, 0, 0, 0, 0, 0, 0, 0, 0, 0, 0, 0, 0, 0, 0, 0, 0, 0, 0, 0, 0, 0, 0], .u64 0], .b8 32 [0, 0, 0, 0, 0, 0, 0, 0, 0, 0, 0, 0, 0, 0, 0, 0, 0, 0, 0, 0, 0, 0, 0, 0, 0, 0, 0, 0, 0, 0, 0, 0], .b8 32 [0, 0, 0, 0, 0, 0, 0, 0, 0, 0, 0, 0, 0, 0, 0, 0, 0, 0, 0, 0, 0, 0, 0, 0, 0, 0, 0, 0, 0, 0, 0, 0]]), true, true⟩ := rfl
theorem Tryd.E_ty48 : Tryd.E.ty 48 = some ⟨98, 112, .str [(0, 46), (34, 35), (66, 35)], some (.agg [.agg [.bool false, .b8 32 [0, 0, 0, 0, 0, 0, 0, 0, 0, 0, 0, 0, 0, 0, 0, 0, 0, 0, 0, 0, 0, 0, 0, 0, 0, 0, 0, 0, 0, 0, 0, 0], .u64 0], .b8 32 [0, 0, 0, 0, 0, 0, 0, 0, 0, 0, 0, 0, 0, 0, 0, 0, 0, 0, 0, 0, 0, 0, 0, 0, 0, 0, 0, 0, 0, 0, 0, 0], .b8 32 [0, 0, 0, 0, 0, 0, 0, 0, 0, 0, 0, 0, 0, 0, 0, 0, 0, 0, 0, 0, 0, 0, 0, 0, 0, 0, 0, 0, 0, 0, 0, 0]]), true, true⟩ := rfl
theorem Tryd.E_ty52 : Tryd.E.ty 52 = some ⟨4, 40, .str [(0, 3), (1, 3), (2, 3), (3, 9)], some (.agg [.int .i64 0, .int .i64 0, .int .i64 0, .str []]), true, true⟩ := rfl
theorem Tryd.E_ty53 : Tryd.E.ty 53 = some ⟨4, 40, .str [(0, 3), (1, 3), (2, 3), (3, 9)], some (.agg [.int .i64 0, .int .i64 0, .int .i64 0, .str []]), true, true⟩ := rfl
theorem Tryd.E_ty57 : Tryd.E.ty 57 = some ⟨68, 96, .arr 2 46, some (.agg [.agg [.bool false, .b8 32 [0, 0, 0, 0, 0, 0, 0, 0, 0, 0, 0, 0, 0, 0, 0, 0, 0, 0, 0, 0, 0, 0, 0, 0, 0, 0, 0, 0, 0, 0, 0, 0], .u64 0], .agg [.bool false, .b8 32 [0, 0, 0, 0, 0, 0, 0, 0, 0, 0, 0, 0, 0, 0, 0, 0, 0, 0, 0, 0, 0, 0, 0, 0, 0, 0, 0, 0, 0, 0, 0, 0], .u64 0]]), true, false⟩ := rfl
theorem Tryd.E_ty62 : Tryd.E.ty 62 = some ⟨64, 64, .arr 2 35, some (.agg [.b8 32 [0, 0, 0, 0, 0, 0, 0, 0, 0, 0, 0, 0, 0, 0, 0, 0, 0, 0, 0, 0, 0, 0, 0, 0, 0, 0, 0, 0, 0, 0, 0, 0], .b8 32 [0, 0, 0, 0, 0, 0, 0, 0, 0, 0, 0, 0, 0, 0, 0, 0, 0, 0, 0, 0, 0, 0, 0, 0, 0, 0, 0, 0, 0, 0, 0, 0]]), true, false⟩ := rfl
theorem Tryd.E_ty65 : Tryd.E.ty 65 = some ⟨96, 96, .arr 3 35, some (.agg [.b8 32 [0, 0, 0, 0, 0, 0, 0, 0, 0, 0, 0, 0, 0, 0, 0, 0, 0, 0, 0, 0, 0, 0, 0, 0, 0, 0, 0, 0, 0, 0, 0, 0], .b8 32 [0, 0, 0, 0, 0, 0, 0, 0, 0, 0, 0, 0, 0, 0, 0, 0, 0, 0, 0, 0, 0, 0, 0, 0, 0, 0, 0, 0, 0, 0, 0, 0], .b8 32 [0, 0, 0, 0, 0, 0, 0, 0, 0, 0, 0, 0, 0, 0, 0, 0, 0, 0, 0, 0, 0, 0, 0, 0, 0, 0, 0, 0, 0, 0, 0, 0]]), true, false⟩ := rfl
theorem Tryd.E_ty69 : Tryd.E.ty 69 = some ⟨16, 64, .arr 16 24, some (.w32 16 [0, 0, 0, 0, 0, 0, 0, 0, 0, 0, 0, 0, 0, 0, 0, 0]), true, false⟩ := rfl
theorem Tryd.E_ty70 : Tryd.E.ty 70 = some ⟨1, 8, .int .u64, some (.u64 0), false, false⟩ := rfl
theorem Tryd.E_ty73 : Tryd.E.ty 73 = some ⟨16, 128, .arr 16 3, some (.agg [.int .i64 0, .int .i64 0, .int .i64 0, .int .i64 0, .int .i64 0, .int .i64 0, .int .i64 0, .int .i64 0, .int .i64 0, .int .i64 0, .int .i64 0, .int .i64 0, .int .i64 0, .int .i64 0, .int .i64 0, .int .i64 0]), true, false⟩ := rfl
theorem Tryd.E_ty74 : Tryd.E.ty 74 = some ⟨160, 1280, .arr 10 73, some (.agg [.agg [.int .i64 0, .int .i64 0, .int .i64 0, .int .i64 0, .int .i64 0, .int .i64 0, .int .i64 0, .int .i64 0, .int .i64 0, .int .i64 0, .int .i64 0, .int .i64 0, .int .i64 0, .int .i64 0, .int .i64 0, .int .i64 0], .agg [.int .i64 0, .int .i64 0, .int .i64 0, .int .i64 0, .int .i64 0, .int .i64 0, .int .i64 0, .int .i64 0, .int .i64 0, .int .i64 0, .int .i64 0, .int .i64 0, .int .i64 0, .int .i64 0, .int .i64 0, .int .i64 0], .agg [.int .i64 0, .int .i64 0, .int .i64 0, .int .i64 0, .int .i64 0, .int .i64 0, .int .i64 0, .int .i64 0, .int .i64 0, .int .i64 0, .int .i64 0, .int .i64 0, .int .i64 0, .int .i64 0, .int .i64 0, .int .i64 0], .agg [.int .i64 0, .int .i64 0, .int .i64 0, .int .i64 0, .int .i64 0, .int .i64 0, .int .i64 0, .int .i64 0, .int .i64 0, .int .i64 0, .int .i64 0, .int .i64 0, .int .i64 0, .int .i64 0, .int .i64 0, .int .i64 0], .agg [.int .i64 0, .int .i64 0, .int .i64 0, .int .i64 0, .int .i64 0, .int .i64 0, .int .i64 0, .int .i64 0, .int .i64 0, .int .i64 0, .int .i64 0, .int .i64 0, .int .i64 0, .int .i64 0, .int .i64 0, .int .i64 0], .agg [.int .i64 0, .int .i64 0, .int .i64 0, .int .i64 0, .int .i64 0, .int .i64 0, .int .i64 0, .int .i64 0, .int .i64 0, .int .i64 0, .int .i64 0, .int .i64 0, .int .i64 0, .int .i64 0, .int .i64 0, .int .i64 0], .agg [.int .i64 0, .int .i64 0, .int .i64 0, .int .i64 0, .int .i64 0, .int .i64 0, .int .i64 0, .int .i64 0, .int .i64 0, .int .i64 0, .int .i64 0, .int .i64 0, .int .i64 0, .int .i64 0, .int .i64 0, .int .i64 0], .agg [.int .i64 0, .int .i64 0, .int .i64 0, .int .i64 0, .int .i64 0, .int .i64 0, .int .i64 0, .int .i64 0, .int .i64 0, .int .i64 0, .int .i64 0, .int .i64 0, .int .i64 0, .int .i64 0, .int .i64 0, .int .i64 0], .agg [.int .i64 0, .int .i64 0, .int .i64 0, .int .i64 0, .int .i64 0, .int .i64 0, .int .i64 0, .int .i64 0, .int .i64 0, .int .i64 0, .int .i64 0, .int .i64 0, .int .i64 0, .int .i64 0, .int .i64 0, .int .i64 0], .agg [.int .i64 0, .int .i64 0, .int .i64 0, .int .i64 0, .int .i64 0, .int .i64 0, .int .i64 0, .int .i64 0, .int .i64 0, .int .i64 0, .int .i64 0, .int .i64 0, .int .i64 0, .int .i64 0, .int .i64 0, .int .i64 0]]), true, false⟩ := rfl
theorem Tryd.E_ty81 : Tryd.E.ty 81 = some ⟨12, 12, .arr 12 5, some (.b8 12 [0, 0, 0, 0, 0, 0, 0, 0, 0, 0, 0, 0]), true, false⟩ := rfl
theorem Tryd.E_ty84 : Tryd.E.ty 84 = some ⟨16, 16, .arr 16 5, some (.b8 16 [0, 0, 0, 0, 0, 0, 0, 0, 0, 0, 0, 0, 0, 0, 0, 0]), true, false⟩ := rfl
theorem Tryd.E_ty90 : Tryd.E.ty 90 = some ⟨16, 64, .arr 16 24, some (.w32 16 [0, 0, 0, 0, 0, 0, 0, 0, 0, 0, 0, 0, 0, 0, 0, 0]), true, false⟩ := rfl
theorem Tryd.E_ty93 : Tryd.E.ty 93 = some ⟨1, 8, .ptr 90, some (.raw (.pointer none)), false, false⟩ := rfl
theorem Tryd.E_ty94 : Tryd.E.ty 94 = some ⟨2, 16, .arr 2 44, some (.w64 2 [0, 0]), true, false⟩ := rfl
theorem Tryd.E_ty95 : Tryd.E.ty 95 = some ⟨3, 24, .arr 3 44, some (.w64 3 [0, 0, 0]), true, false⟩ := rfl
theorem Tryd.E_ty96 : Tryd.E.ty 96 = some ⟨24, 80, .str [(0, 94), (2, 94), (4, 95), (7, 84), (23, 3)], some (.agg [.w64 2 [0, 0], .w64 2 [0, 0], .w64 3 [0, 0, 0], .b8 16 [0, 0, 0, 0, 0, 0, 0, 0, 0, 0, 0, 0, 0, 0, 0, 0], .int .i64 0]), true, true⟩ := rfl
theorem Tryd.E_ty97 : Tryd.E.ty 97 = some ⟨24, 80, .str [(0, 94), (2, 94), (4, 95), (7, 84), (23, 3)], some (.agg [.w64 2 [0, 0], .w64 2 [0, 0], .w64 3 [0, 0, 0], .b8 16 [0, 0, 0, 0, 0, 0, 0, 0, 0, 0, 0, 0, 0, 0, 0, 0], .int .i64 0]), true, true⟩ := rfl
theorem Tryd.E_ty111 : Tryd.E.ty 111 = some ⟨5, 40, .arr 5 44, some (.w64 5 [0, 0, 0, 0, 0]), true, false⟩ := rfl
theorem Tryd.E_ty114 : Tryd.E.ty 114 = some ⟨4, 40, .str [(0, 17), (1, 17), (2, 17), (3, 9)], some (.agg [.raw (.pointer none), .raw (.pointer none), .raw (.pointer none), .str []]), false, false⟩ := rfl
theorem Tryd.E_ty115 : Tryd.E.ty 115 = some ⟨4, 40, .str [(0, 17), (1, 17), (2, 17), (3, 9)], some (.agg [.raw (.pointer none), .raw (.pointer none), .raw (.pointer none), .str []]), false, false⟩ := rfl
theorem Tryd.E_ty116 : Tryd.E.ty 116 = some ⟨0, 0, .arr 0 16, some (.agg []), false, false⟩ := rfl
theorem Tryd.E_ty117 : Tryd.E.ty 117 = some ⟨0, 0, .str [(0, 116)], some (.agg []), false, false⟩ := rfl
theorem Tryd.E_ty118 : Tryd.E.ty 118 = some ⟨0, 0, .str [(0, 116)], some (.agg []), false, false⟩ := rfl
theorem Tryd.E_ty120 : Tryd.E.ty 120 = some ⟨1, 1, .int .u8, some (.u8 0), false, false⟩ := rfl
theorem Tryd.E_ty121 : Tryd.E.ty 121 = some ⟨1, 1, .int .u8, some (.u8 0), false, false⟩ := rfl
theorem Tryd.E_ty123 : Tryd.E.ty 123 = some ⟨1, 8, .ptr 5, some (.raw (.pointer none)), false, false⟩ := rfl
theorem Tryd.E_ty124 : Tryd.E.ty 124 = some ⟨1, 4, .int .i32, some (.int .i32 0), false, false⟩ := rfl
theorem Tryd.E_ty125 : Tryd.E.ty 125 = some ⟨1, 4, .int .i32, some (.int .i32 0), false, false⟩ := rfl
theorem Tryd.E_ty126 : Tryd.E.ty 126 = some ⟨11, 48, .str [(0, 12), (1, 12), (2, 24), (3, 120), (4, 5), (5, 5), (6, 121), (7, 122), (8, 123), (9, 124), (10, 125)], some (.agg [.u64 0, .u64 0, .u32 0, .u8 0, .u8 0, .u8 0, .u8 0, .raw .nilFunc, .raw (.pointer none), .int .i32 0, .int .i32 0]), false, false⟩ := rfl
theorem Tryd.E_ty127 : Tryd.E.ty 127 = some ⟨11, 48, .str [(0, 12), (1, 12), (2, 24), (3, 120), (4, 5), (5, 5), (6, 121), (7, 122), (8, 123), (9, 124), (10, 125)], some (.agg [.u64 0, .u64 0, .u32 0, .u8 0, .u8 0, .u8 0, .u8 0, .raw .nilFunc, .raw (.pointer none), .int .i32 0, .int .i32 0]), false, false⟩ := rfl
theorem Tryd.E_go3 : Tryd.E.go 3 = true := rfl
theorem Tryd.E_go4 : Tryd.E.go 4 = true := rfl
theorem Tryd.E_go5 : Tryd.E.go 5 = true := rfl
theorem Tryd.E_go6 : Tryd.E.go 6 = true := rfl
theorem Tryd.E_go7 : Tryd.E.go 7 = true := rfl
theorem Tryd.E_go8 : Tryd.E.go 8 = true := rfl
theorem Tryd.E_go9 : Tryd.E.go 9 = true := rfl
theorem Tryd.E_go10 : Tryd.E.go 10 = true := rfl
theorem Tryd.E_go11 : Tryd.E.go 11 = true := rfl
theorem Tryd.E_go12 : Tryd.E.go 12 = true := rfl
theorem Tryd.E_go13 : Tryd.E.go 13 = true := rfl
theorem Tryd.E_go14 : Tryd.E.go 14 = true := rfl
theorem Tryd.E_go15 : Tryd.E.go 15 = true := rfl
theorem Tryd.E_go16 : Tryd.E.go 16 = true := rfl
theorem Tryd.E_go17 : Tryd.E.go 17 = true := rfl
theorem Tryd.E_go18 : Tryd.E.go 18 = true := rfl
theorem Tryd.E_go19 : Tryd.E.go 19 = true := rfl
theorem Tryd.E_go20 : Tryd.E.go 20 = true := rfl
theorem Tryd.E_go21 : Tryd.E.go 21 = true := rfl
theorem Tryd.E_go22 : Tryd.E.go 22 = true := rfl
theorem Tryd.E_go23 : Tryd.E.go 23 = true := rfl
theorem Tryd.E_go24 : Tryd.E.go 24 = true := rfl
theorem Tryd.E_go25 : Tryd.E.go 25 = true := rfl
theorem Tryd.E_go26 : Tryd.E.go 26 = true := rfl
theorem Tryd.E_go27 : Tryd.E.go 27 = true := rfl
theorem Tryd.E_go28 : Tryd.E.go 28 = true := rfl
theorem Tryd.E_go29 : Tryd.E.go 29 = true := rfl
theorem Tryd.E_go30 : Tryd.E.go 30 = true := rfl
theorem Tryd.E_go31 : Tryd.E.go 31 = true := rfl
theorem Tryd.E_go32 : Tryd.E.go 32 = true := rfl
theorem Tryd.E_go33 : Tryd.E.go 33 = true := rfl
theorem Tryd.E_go34 : Tryd.E.go 34 = true := rfl
theorem Tryd.E_go35 : Tryd.E.go 35 = true := rfl
theorem Tryd.E_go36 : Tryd.E.go 36 = true := rfl
theorem Tryd.E_go37 : Tryd.E.go 37 = true := rfl
theorem Tryd.E_go38 : Tryd.E.go 38 = true := rfl
theorem Tryd.E_go39 : Tryd.E.go 39 = true := rfl
theorem Tryd.E_go40 : Tryd.E.go 40 = true := rfl
theorem Tryd.E_go41 : Tryd.E.go 41 = true := rfl
theorem Tryd.E_go42 : Tryd.E.go 42 = true := rfl
theorem Tryd.E_go43 : Tryd.E.go 43 = true := rfl
theorem Tryd.E_go44 : Tryd.E.go 44 = true := rfl
theorem Tryd.E_go45 : Tryd.E.go 45 = true := rfl
theorem Tryd.E_go46 : Tryd.E.go 46 = true := rfl
theorem Tryd.E_go47 : Tryd.E.go 47 = true := rfl
theorem Tryd.E_go48 : Tryd.E.go 48 = true := rfl
theorem Tryd.E_go49 : Tryd.E.go 49 = true := rfl
theorem Tryd.E_go50 : Tryd.E.go 50 = true := rfl
theorem Tryd.E_go51 : Tryd.E.go 51 = true := rfl
theorem Tryd.E_go52 : Tryd.E.go 52 = true := rfl
theorem Tryd.E_go54 : Tryd.E.go 54 = true := rfl
theorem Tryd.E_go55 : Tryd.E.go 55 = true := rfl
theorem Tryd.E_go56 : Tryd.E.go 56 = true := rfl
theorem Tryd.E_x3 : Tryd.E.x 3 = .go := rfl
theorem Tryd.E_x4 : Tryd.E.x 4 = .go := rfl
theorem Tryd.E_x5 : Tryd.E.x 5 = .go := rfl
theorem Tryd.E_x6 : Tryd.E.x 6 = .go := rfl
theorem Tryd.E_x7 : Tryd.E.x 7 = .go := rfl
theorem Tryd.E_x8 : Tryd.E.x 8 = .go := rfl
theorem Tryd.E_x9 : Tryd.E.x 9 = .go := rfl
theorem Tryd.E_x10 : Tryd.E.x 10 = .go := rfl
theorem Tryd.E_x11 : Tryd.E.x 11 = .go := rfl
theorem Tryd.E_x12 : Tryd.E.x 12 = .go := rfl
theorem Tryd.E_x13 : Tryd.E.x 13 = .go := rfl
theorem Tryd.E_x14 : Tryd.E.x 14 = .go := rfl
theorem Tryd.E_x15 : Tryd.E.x 15 = .go := rfl
theorem Tryd.E_x16 : Tryd.E.x 16 = .go := rfl
theorem Tryd.E_x17 : Tryd.E.x 17 = .go := rfl
theorem Tryd.E_x18 : Tryd.E.x 18 = .go := rfl
theorem Tryd.E_x19 : Tryd.E.x 19 = .go := rfl
theorem Tryd.E_x20 : Tryd.E.x 20 = .go := rfl
theorem Tryd.E_x21 : Tryd.E.x 21 = .go := rfl
theorem Tryd.E_x22 : Tryd.E.x 22 = .go := rfl
theorem Tryd.E_x23 : Tryd.E.x 23 = .go := rfl
theorem Tryd.E_x24 : Tryd.E.x 24 = .go := rfl
theorem Tryd.E_x25 : Tryd.E.x 25 = .go := rfl
theorem Tryd.E_x26 : Tryd.E.x 26 = .go := rfl
theorem Tryd.E_x27 : Tryd.E.x 27 = .go := rfl
theorem Tryd.E_x28 : Tryd.E.x 28 = .go := rfl
theorem Tryd.E_x29 : Tryd.E.x 29 = .go := rfl
theorem Tryd.E_x30 : Tryd.E.x 30 = .go := rfl
theorem Tryd.E_x31 : Tryd.E.x 31 = .go := rfl
theorem Tryd.E_x32 : Tryd.E.x 32 = .go := rfl
theorem Tryd.E_x33 : Tryd.E.x 33 = .go := rfl
theorem Tryd.E_x34 : Tryd.E.x 34 = .go := rfl
theorem Tryd.E_x35 : Tryd.E.x 35 = .go := rfl
theorem Tryd.E_x36 : Tryd.E.x 36 = .go := rfl
theorem Tryd.E_x37 : Tryd.E.x 37 = .go := rfl
theorem Tryd.E_x38 : Tryd.E.x 38 = .go := rfl
theorem Tryd.E_x39 : Tryd.E.x 39 = .go := rfl
theorem Tryd.E_x40 : Tryd.E.x 40 = .go := rfl
theorem Tryd.E_x41 : Tryd.E.x 41 = .go := rfl
theorem Tryd.E_x42 : Tryd.E.x 42 = .go := rfl
theorem Tryd.E_x43 : Tryd.E.x 43 = .go := rfl
theorem Tryd.E_x44 : Tryd.E.x 44 = .go := rfl
theorem Tryd.E_x45 : Tryd.E.x 45 = .go := rfl
theorem Tryd.E_x46 : Tryd.E.x 46 = .go := rfl
theorem Tryd.E_x47 : Tryd.E.x 47 = .go := rfl
theorem Tryd.E_x48 : Tryd.E.x 48 = .go := rfl
theorem Tryd.E_x49 : Tryd.E.x 49 = .go := rfl
theorem Tryd.E_x50 : Tryd.E.x 50 = .go := rfl
theorem Tryd.E_x51 : Tryd.E.x 51 = .go := rfl
theorem Tryd.E_x52 : Tryd.E.x 52 = .go := rfl
theorem Tryd.E_x53 : Tryd.E.x 53 = .add64 := rfl
theorem Tryd.E_x54 : Tryd.E.x 54 = .go := rfl
theorem Tryd.E_x55 : Tryd.E.x 55 = .go := rfl
theorem Tryd.E_x56 : Tryd.E.x 56 = .go := rfl
theorem Tryd.E_g0 {t : List AV} : evA Tryd.E t (.global 0) = .vp [.w32 8 Go.Bla.iv] 0 := rfl
theorem Tryd.E_g1 {t : List AV} : evA Tryd.E t (.global 1) = .vp [.n64 160 Go.Bla.ordersL] 0 := rfl
-- Tryd.ti2 Tryd.E_ty2 Tryd.ti3 Tryd.E_ty3 Tryd.ti4 Tryd.E_ty4 Tryd.ti5 Tryd.E_ty5
-- Tryd.ti6 Tryd.E_ty6 Tryd.ti7 Tryd.E_ty7 Tryd.ti8 Tryd.E_ty8 Tryd.ti9 Tryd.E_ty9
-- Tryd.ti10 Tryd.E_ty10 Tryd.ti11 Tryd.E_ty11 Tryd.ti12 Tryd.E_ty12 Tryd.ti13 Tryd.E_ty13
-- Tryd.ti14 Tryd.E_ty14 Tryd.ti15 Tryd.E_ty15 Tryd.ti16 Tryd.E_ty16 Tryd.ti17 Tryd.E_ty17
-- Tryd.ti18 Tryd.E_ty18 Tryd.ti19 Tryd.E_ty19 Tryd.ti21 Tryd.E_ty21 Tryd.ti22 Tryd.E_ty22
-- Tryd.ti24 Tryd.E_ty24 Tryd.ti25 Tryd.E_ty25 Tryd.ti26 Tryd.E_ty26 Tryd.ti27 Tryd.E_ty27
-- Tryd.ti28 Tryd.E_ty28 Tryd.ti30 Tryd.E_ty30 Tryd.ti31 Tryd.E_ty31 Tryd.ti34 Tryd.E_ty34
-- Tryd.ti35 Tryd.E_ty35 Tryd.ti41 Tryd.E_ty41 Tryd.ti43 Tryd.E_ty43 Tryd.ti44 Tryd.E_ty44
-- Tryd.ti45 Tryd.E_ty45 Tryd.ti46 Tryd.E_ty46 Tryd.ti47 Tryd.E_ty47 Tryd.ti48 Tryd.E_ty48
-- Tryd.ti52 Tryd.E_ty52 Tryd.ti53 Tryd.E_ty53 Tryd.ti57 Tryd.E_ty57 Tryd.ti62 Tryd.E_ty62
-- Tryd.ti65 Tryd.E_ty65 Tryd.ti69 Tryd.E_ty69 Tryd.ti70 Tryd.E_ty70 Tryd.ti73 Tryd.E_ty73
-- Tryd.ti74 Tryd.E_ty74 Tryd.ti81 Tryd.E_ty81 Tryd.ti84 Tryd.E_ty84 Tryd.ti90 Tryd.E_ty90
-- Tryd.ti93 Tryd.E_ty93 Tryd.ti94 Tryd.E_ty94 Tryd.ti95 Tryd.E_ty95 Tryd.ti96 Tryd.E_ty96
-- Tryd.ti97 Tryd.E_ty97 Tryd.ti111 Tryd.E_ty111 Tryd.ti114 Tryd.E_ty114 Tryd.ti115 Tryd.E_ty115
-- Tryd.ti116 Tryd.E_ty116 Tryd.ti117 Tryd.E_ty117 Tryd.ti118 Tryd.E_ty118 Tryd.ti120 Tryd.E_ty120
-- Tryd.ti121 Tryd.E_ty121 Tryd.ti123 Tryd.E_ty123 Tryd.ti124 Tryd.E_ty124 Tryd.ti125 Tryd.E_ty125
-- Tryd.ti126 Tryd.E_ty126 Tryd.ti127 Tryd.E_ty127 Tryd.E_go3 Tryd.E_go4 Tryd.E_go5 Tryd.E_go6
-- Tryd.E_go7 Tryd.E_go8 Tryd.E_go9 Tryd.E_go10 Tryd.E_go11 Tryd.E_go12 Tryd.E_go13 Tryd.E_go14
-- Tryd.E_go15 Tryd.E_go16 Tryd.E_go17 Tryd.E_go18 Tryd.E_go19 Tryd.E_go20 Tryd.E_go21 Tryd.E_go22
-- Tryd.E_go23 Tryd.E_go24 Tryd.E_go25 Tryd.E_go26 Tryd.E_go27 Tryd.E_go28 Tryd.E_go29 Tryd.E_go30
-- Tryd.E_go31 Tryd.E_go32 Tryd.E_go33 Tryd.E_go34 Tryd.E_go35 Tryd.E_go36 Tryd.E_go37 Tryd.E_go38
-- Tryd.E_go39 Tryd.E_go40 Tryd.E_go41 Tryd.E_go42 Tryd.E_go43 Tryd.E_go44 Tryd.E_go45 Tryd.E_go46
-- Tryd.E_go47 Tryd.E_go48 Tryd.E_go49 Tryd.E_go50 Tryd.E_go51 Tryd.E_go52 Tryd.E_go54 Tryd.E_go55
-- Tryd.E_go56 Tryd.E_x3 Tryd.E_x4 Tryd.E_x5 Tryd.E_x6 Tryd.E_x7 Tryd.E_x8 Tryd.E_x9
-- Tryd.E_x10 Tryd.E_x11 Tryd.E_x12 Tryd.E_x13 Tryd.E_x14 Tryd.E_x15 Tryd.E_x16 Tryd.E_x17
-- Tryd.E_x18 Tryd.E_x19 Tryd.E_x20 Tryd.E_x21 Tryd.E_x22 Tryd.E_x23 Tryd.E_x24 Tryd.E_x25
-- Tryd.E_x26 Tryd.E_x27 Tryd.E_x28 Tryd.E_x29 Tryd.E_x30 Tryd.E_x31 Tryd.E_x32 Tryd.E_x33
-- Tryd.E_x34 Tryd.E_x35 Tryd.E_x36 Tryd.E_x37 Tryd.E_x38 Tryd.E_x39 Tryd.E_x40 Tryd.E_x41
-- Tryd.E_x42 Tryd.E_x43 Tryd.E_x44 Tryd.E_x45 Tryd.E_x46 Tryd.E_x47 Tryd.E_x48 Tryd.E_x49
-- Tryd.E_x50 Tryd.E_x51 Tryd.E_x52 Tryd.E_x53 Tryd.E_x54 Tryd.E_x55 Tryd.E_x56 Tryd.E_g0
-- Tryd.E_g1
end Go.Proofs

/- The abstract layer (third state), part S: operations on slices. -/
set_option linter.unusedSimpArgs false
set_option linter.unusedVariables false
namespace Go.V
open Go
noncomputable section

section
variable {P : Program} {G : Env P} {g : Nat → Option (List AV)} {ρ : Rho} {I : Imm} {H : Heap} {w : World}

/-- More memory, of which nothing is owned. -/
theorem grow_conc (c : Conc g ρ I H w) {w' : World} (hsz : w.heap.size ≤ w'.heap.size) (hold : ∀ b, b < w.heap.size → w'.heap[b]? = w.heap[b]?) (hos : w'.os = w.os) (htape : w'.tape = w.tape) (hout : w'.output = w.output) :
    Good ρ I H w ρ I H w' ∧ Conc g ρ I H w' ∧ Mono ρ I w ρ I w' := by
  have gd : Good ρ I H w ρ I H w' :=
    ⟨fun _ _ h => h, fun _ _ _ h => h, Nat.le_refl _, fun _ _ h => h, fun _ _ _ h => .inl h, hos, htape, hout, hsz, fun b off h _ => by simp only [World.cell?, hold b h], fun b h _ => hold b h,
      fun b h => by unfold bsz; rw [hold b h], fun _ _ _ h => h, fun _ _ h => h⟩
  have m := c.mono gd fun _ _ h => h
  refine ⟨gd, ⟨c.dom, c.res, fun id b h => Nat.lt_of_lt_of_le (c.blt id b h) hsz, c.inj, ?_, ?_, fun b o hb => ⟨Nat.lt_of_lt_of_le (c.imm b o hb).1 hsz, (c.imm b o hb).2⟩, ?_⟩, m⟩
  · intro id cs f h
    obtain ⟨b, el, fr, us, k1, k2, k3, k4⟩ := c.blk id cs f h
    exact ⟨b, el, fr, us, k1, by rw [hold b (c.blt id b k1)]; exact k2, RL_mono m _ _ k3, k4⟩
  · intro id e h he
    obtain ⟨q, h'⟩ := c.grow id e h he
    refine ⟨q, ?_⟩
    rcases h' with ⟨k1, k2⟩ | ⟨b, el, fr, us, rest, k1, k2, k3, k4⟩
    · exact .inl ⟨k1, k2⟩
    · exact .inr ⟨b, el, fr, us, rest, k1, by rw [hold b (c.blt id b k1)]; exact k2, RL_mono m _ _ k3, k4⟩
  · intro gl cs h
    obtain ⟨us, q1, q2⟩ := c.glob gl cs h
    exact ⟨us, RL_mono m.none _ _ q1, q2.mono m.imm⟩

/-- A new row of memory, at a number that was kept. -/
theorem new_grow (c : Conc g ρ I H w) {nid : Nat} (hn : H[nid]? = some .res) {e : Ent} (he : e.grows = true) (hev : e.even) {w' : World} {el : TypeId} {fr : Nat × Nat} {cs rest : List Value} (hsz : w'.heap.size = w.heap.size + 1)
    (hold : ∀ b, b < w.heap.size → w'.heap[b]? = w.heap[b]?) (hnew : w'.heap[w.heap.size]? = some (.cells (cs ++ rest).toArray el fr)) (hr : RL ρ I w e.cells cs) (hcl : clear fr (cs ++ rest).length)
    (hos : w'.os = w.os) (htape : w'.tape = w.tape) (hout : w'.output = w.output) :
    Good ρ I H w (bindR ρ nid (some w.heap.size)) I (H.set nid e) w' ∧ Conc g (bindR ρ nid (some w.heap.size)) I (H.set nid e) w' ∧ Mono ρ I w (bindR ρ nid (some w.heap.size)) I w' := by
  refine fill_gen c hn e (some w.heap.size) (fun b hb => by simp at hb; omega) (by omega) hold (by cases e <;> simp_all [Ent.grows, Ent.live]) ?_ ?_ hos htape hout
  · rintro cs f rfl; simp [Ent.grows] at he
  · exact fun _ => ⟨hev, .inr ⟨_, el, fr, cs, rest, rfl, hnew, hr, hcl⟩⟩

theorem new_sl {nid n cap k : Nat} {w' : World} {el : TypeId} {fr : Nat × Nat} {all : List Value} (hsz : w'.heap.size = w.heap.size + 1) (hnew : w'.heap[w.heap.size]? = some (.cells all.toArray el fr)) (hle : n ≤ cap) (hall : cap * k ≤ all.length) :
    rel (bindR ρ nid (some w.heap.size)) I w' (.sl nid 0 k n) (.slice (some ⟨w.heap.size, 0, none⟩) n cap) := by
  refine rel_sl.2 (.inl ⟨w.heap.size, cap, by simp [bindR], rfl, hle, by omega, ?_⟩)
  unfold bsz
  rw [hnew]
  simpa using hall

theorem RL_seg8 {l : List UInt8} : RL ρ I w [.b8 l.length l] (v8 l) := ⟨v8 l, [], by simp, ⟨rfl, rfl⟩, rfl⟩
theorem Ent.grow8_cells {l : List UInt8} {f : List (Nat × Nat)} : (Ent.grow8 l f).cells = [.b8 l.length l] := rfl

/-- Bounds, as values and as numbers. -/
def BV : Option Value → Option Int → Prop
  | none, none => True
  | some v, some n => ∃ k, v = .int k n
  | _, _ => False

theorem optI_BV {ev : Operand → AV} {e : Operand → Value} (r : ∀ x, rel ρ I w (ev x) (e x)) {o : Option Operand} {i : Option Int} (h : optI ev o = some i) : BV (o.map e) i := by
  cases o with
  | none => simp only [optI, Option.some.injEq] at h; subst h; trivial
  | some x =>
    simp only [optI] at h
    split at h
    · rename_i k n hk
      simp only [Option.some.injEq] at h
      subst h
      exact ⟨k, rel_toI hk (r x)⟩
    · simp at h

theorem sliceOk_spec {lo hi : Option Int} {len : Nat} (h : sliceOk lo hi len = true) : loN lo ≤ hiN len hi ∧ hiN len hi ≤ len ∧ (∀ n, lo = some n → 0 ≤ n) ∧ (∀ n, hi = some n → 0 ≤ n) := by
  unfold sliceOk at h
  cases lo with
  | none => cases hi with
    | none => simp [loN, hiN]
    | some y =>
      simp only [Bool.and_eq_true] at h
      have := nnB_iff.1 h.1; have := leB_iff.1 h.2
      simp [loN, hiN]; omega
  | some x => cases hi with
    | none =>
      simp only [Bool.and_eq_true] at h
      have := nnB_iff.1 h.1; have := leB_iff.1 h.2
      simp [loN, hiN]; omega
    | some y =>
      simp only [Bool.and_eq_true] at h
      have := nnB_iff.1 h.1.1; have := leB_iff.1 h.1.2; have := nnB_iff.1 h.2.1; have := leB_iff.1 h.2.2
      simp [loN, hiN]; omega

theorem run_bound {v : Value} {n : Int} {y : Nat} {code : BoundsCode} (h : ∃ k, v = .int k n) (h0 : 0 ≤ n) (h1 : n.toNat ≤ y) : (Instr.sliceBound v y code).run P w = .ok n.toNat w := by
  obtain ⟨k, rfl⟩ := h
  exact run_sliceBound w k n y code h0 (by omega)

theorem run_bounds {b : Bool} {len cap : Nat} {lo hi : Option Value} {lo' hi' : Option Int} (h1 : BV lo lo') (h2 : BV hi hi') (ok : sliceOk lo' hi' len = true) (hc : len ≤ cap) :
    (Instr.sliceBounds b len cap lo hi none).run P w = .ok (loN lo', hiN len hi', cap) w := by
  obtain ⟨q1, q2, q3, q4⟩ := sliceOk_spec ok
  cases lo <;> cases lo' <;> simp only [BV] at h1
  · cases hi <;> cases hi' <;> simp only [BV] at h2
    · simp [Instr.sliceBounds, loN, hiN]
    · rename_i v n
      have := run_bound (P := P) (w := w) (y := cap) (code := if b then .sliceAcap else .sliceAlen) h2 (q4 n rfl) (by simp [hiN] at q2; omega)
      simp [Instr.sliceBounds, loN, hiN, this]
  · rename_i v n
    cases hi <;> cases hi' <;> simp only [BV] at h2
    · have := run_bound (P := P) (w := w) (y := len) (code := .sliceB) h1 (q3 n rfl) (by simpa [loN, hiN] using q1)
      simp [Instr.sliceBounds, loN, hiN, this]
    · rename_i v' n'
      have e1 := run_bound (P := P) (w := w) (y := cap) (code := if b then .sliceAcap else .sliceAlen) h2 (q4 n' rfl) (by simp [hiN] at q2; omega)
      have e2 := run_bound (P := P) (w := w) (y := n'.toNat) (code := .sliceB) h1 (q3 n rfl) (by simpa [loN, hiN] using q1)
      simp [Instr.sliceBounds, loN, hiN, e1, e2]

theorem run_bounds3 {b : Bool} {len cap : Nat} {lo hi mx : Option Value} {lo' : Option Int} {h' : Int} (h1 : BV lo lo') (h2 : BV hi (some h')) (h3 : BV mx (some h')) (ok : sliceOk lo' (some h') len = true) (hc : len ≤ cap) :
    (Instr.sliceBounds b len cap lo hi mx).run P w = .ok (loN lo', h'.toNat, h'.toNat) w := by
  obtain ⟨q1, q2, q3, q4⟩ := sliceOk_spec ok
  cases hi <;> simp only [BV] at h2
  cases mx <;> simp only [BV] at h3
  simp only [hiN] at q1 q2
  have e1 := run_bound (P := P) (w := w) (y := cap) (code := if b then .slice3Acap else .slice3Alen) h3 (q4 h' rfl) (by omega)
  have e2 := run_bound (P := P) (w := w) (y := h'.toNat) (code := .slice3B) h2 (q4 h' rfl) (Nat.le_refl _)
  cases lo <;> cases lo' <;> simp only [BV] at h1
  · simp [Instr.sliceBounds, loN, e1, e2]
  · rename_i v n
    have e3 := run_bound (P := P) (w := w) (y := h'.toNat) (code := .slice3C) h1 (q3 n rfl) (by simpa [loN] using q1)
    simp [Instr.sliceBounds, loN, e1, e2, e3]
end
section
variable {P : Program} {G : Env P} {ρ : Rho} {I : Imm} {H : Heap} {w : World}

theorem sliceL_eq {α : Type} {lo hi : Option Int} {l : List α} (h : sliceOk lo hi l.length = true) : sliceL lo hi l = (l.drop (loN lo)).take (hiN l.length hi - loN lo) := by
  obtain ⟨q1, q2, q3, q4⟩ := sliceOk_spec h
  cases lo <;> cases hi <;> simp only [sliceL, loN, hiN] at *
  · simp
  · simp
  · simp [List.take_of_length_le]
  · rw [List.drop_take]

theorem length_sliceL {α : Type} {lo hi : Option Int} {l : List α} (h : sliceOk lo hi l.length = true) : (sliceL lo hi l).length = hiN l.length hi - loN lo := by
  obtain ⟨q1, q2, _, _⟩ := sliceOk_spec h
  rw [sliceL_eq h]; simp; omega

theorem RL_rowsDrop {k : Nat} : ∀ {rows : List AV} {vs : List Value} (n : Nat), (∀ a ∈ rows, szA a = k) → RL ρ I w rows vs → RL ρ I w (rows.drop n) (vs.drop (n * k))
  | _, _, 0, _, h => by simpa using h
  | [], _, n + 1, _, h => by cases h; simp [RL]
  | a :: as, _, n + 1, hk, ⟨ys, zs, h0, h1, h2⟩ => by
    subst h0
    have hl := R_len a ys h1
    rw [hk a (by simp)] at hl
    rw [List.drop_succ_cons]
    have := RL_rowsDrop n (fun b hb => hk b (by simp [hb])) h2
    rw [Nat.add_mul, Nat.one_mul, Nat.add_comm, ← List.drop_drop, List.drop_left' hl]
    exact this

/-- A slice of what nobody writes. -/
theorem vecR_slice {full full' : Bool} {len k : Nat} {vs : List Value} {a : Option Addr} {cap l h : Nat} (hv : vecR I w full len vs (.slice a len cap)) (h1 : l ≤ h) (h2 : h ≤ len) {cap' : Nat} (hc : cap' ≤ cap) (hh : h ≤ cap') (hf : full' = true → cap' = h) :
    vecR I w full' (h - l) ((vs.drop (l * k)).take ((h - l) * k)) (sliced a l h cap' k) := by
  obtain ⟨a0, cap0, e, g1, g2, g3⟩ := hv
  simp only [Value.slice.injEq, true_and] at e
  obtain ⟨rfl, rfl⟩ := e
  refine ⟨_, _, rfl, by omega, fun q => by rw [hf q], ?_⟩
  rcases Nat.eq_zero_or_pos (h - l) with hz | hz
  · exact .inl hz
  · right
    rcases g3 with g3 | ⟨b, off, rfl, g4, g5⟩
    · omega
    · refine ⟨b, off + l * k, ?_, g4, g5.sub ?_⟩
      · rw [if_neg (by omega)]; simp [addr_add]
      · intro i x hx
        rw [List.getElem?_take] at hx
        split at hx
        · rwa [List.getElem?_drop] at hx
        · simp at hx

theorem slR_slice {id off k len : Nat} {v : Value} (hv : slR ρ w id off k len v) {l h : Nat} (h1 : l ≤ h) (h2 : h ≤ len) : ∃ a cap, v = .slice a len cap ∧ len ≤ cap ∧ slR ρ w id (off + l * k) k (h - l) (sliced a l h cap k) := by
  rcases hv with ⟨b, cap, g1, rfl, g2, g3, g4⟩ | ⟨rfl, a, rfl⟩
  · refine ⟨_, cap, rfl, g2, ?_⟩
    by_cases e : cap = l
    · subst e
      right
      have e1 : h = cap := by omega
      subst e1
      exact ⟨by omega, some ⟨b, off, none⟩, by simp [sliced]⟩
    · left
      refine ⟨b, cap - l, g1, by simp [sliced, e, addr_add], by omega, g3, ?_⟩
      have : (cap - l) * k + l * k = cap * k := by rw [← Nat.add_mul]; congr 1; omega
      omega
  · refine ⟨a, 0, rfl, Nat.le_refl _, .inr ⟨by omega, a, ?_⟩⟩
    have : h = 0 := by omega
    subst this
    have : l = 0 := by omega
    subst this
    simp [sliced]

theorem run_sizeOfE {e : Nat} {te : TI} (h : G.ty e = some te) : (sizeOf e).run P w = .ok te.size w := by
  obtain ⟨j, d, h1, h2, h3, _⟩ := ty_ok h
  rw [run_sizeOf h1, h3]

theorem elem_of {t e : Nat} (h : P.underlying t = some (.slice e)) : P.elem t = e := by simp [Program.elem, h]

theorem run_sliceAt_sl {t e : Nat} {te : TI} (ht : P.underlying t = some (.slice e)) (hte : G.ty e = some te) {a : Option Addr} {len cap : Nat} {lo hi mx : Option Value} {l h m : Nat}
    (hb : (Instr.sliceBounds true len cap lo hi mx).run P w = .ok (l, h, m) w) : (Instr.sliceAt t (.slice a len cap) lo hi mx).run P w = .ok (sliced a l h m te.size) w := by
  have ht' : P.underlying t = some (.slice (P.elem t)) := by rw [elem_of ht]; exact ht
  rw [run_sliceAt_slice w t _ lo hi mx ht', run_slice_any w t a len cap ht' lo hi mx, hb]
  simp only [Result.andThen]
  rw [elem_of ht, run_sizeOfE hte]

theorem run_sliceAt_str {t : Nat} (ht : P.underlying t = some .string) {s : ByteArray} {lo hi : Option Value} {l h m : Nat}
    (hb : (Instr.sliceBounds false s.size s.size lo hi none).run P w = .ok (l, h, m) w) : (Instr.sliceAt t (.string s) lo hi none).run P w = .ok (.string (s.extract l h)) w := by
  rw [run_sliceAt_string w t _ lo hi none ht]
  simp [Instr.slice, run_underlying ht, hb]

theorem extract_mk (s : List UInt8) (l h : Nat) : (⟨s.toArray⟩ : ByteArray).extract l h = ⟨((s.drop l).take (h - l)).toArray⟩ := by
  apply ByteArray.ext
  simp [ByteArray.data_extract, List.extract_toArray, List.extract_eq_take_drop]

theorem v8_slice {l : List UInt8} {lo hi : Option Int} (h : sliceOk lo hi l.length = true) : v8 (sliceL lo hi l) = ((v8 l).drop (loN lo * 1)).take ((hiN l.length hi - loN lo) * 1) := by
  rw [sliceL_eq h, v8_drop, v8_take, Nat.mul_one, Nat.mul_one]

theorem RL_slice {k : Nat} {rows : List AV} {vs : List Value} (hk : ∀ a ∈ rows, szA a = k) (hr : RL ρ I w rows vs) {lo hi : Option Int} (h : sliceOk lo hi rows.length = true) :
    RL ρ I w (sliceL lo hi rows) ((vs.drop (loN lo * k)).take ((hiN rows.length hi - loN lo) * k)) ∧ ∀ a ∈ sliceL lo hi rows, szA a = k := by
  rw [sliceL_eq h]
  exact ⟨RL_rowsTake _ (fun a ha => hk a (List.mem_of_mem_drop ha)) (RL_rowsDrop _ hk hr), fun a ha => hk a (List.mem_of_mem_drop (List.mem_of_mem_take ha))⟩

end

section
variable {P : Program} (G : Env P)

/-- A slice of a string, of a slice, of an array behind an address. -/
def aSl (ti : TI) (H : Heap) (x : AV) (lo hi : Option Int) : Option (Bool × AV) :=
  match ti.kind, x with
  | .string, .str s => some (sliceOk lo hi s.length, .str (sliceL lo hi s))
  | .slice e, .vec8 full l => match G.ty e with
    | some te => some (te.size == 1 && sliceOk lo hi l.length, .vec8 (full && hi.isNone) (sliceL lo hi l))
    | none => none
  | .slice e, .vec full k rows => match G.ty e with
    | some te => some (te.size == k && sliceOk lo hi rows.length, .vec (full && hi.isNone) k (sliceL lo hi rows))
    | none => none
  | .slice e, .vecr full k m f => match G.ty e with
    | some te => some (te.size == k && sliceOk lo hi m, .vecr (full && hi.isNone) k (hiN m hi - loN lo) (fun i => f (loN lo + i)))
    | none => none
  | .slice e, .slv _ k m f => match G.ty e with
    | some te => some (te.size == k && sliceOk lo hi m, .vecr (false && hi.isNone) k (hiN m hi - loN lo) (fun i => f (loN lo + i)))
    | none => none
  | .slice e, .sl id off k len => match G.ty e with
    | some te => some (te.size == k && sliceOk lo hi len, .sl id (off + loN lo * k) k (hiN len hi - loN lo))
    | none => none
  | .ptr a, .ptr id off => match G.ty a with
    | some ta => match ta.kind with
      | .arr n e => match G.ty e with
        | some te => match entCells H id with
          | some c => some ((leB (off + n * te.size) (szL c) && te.size != 0) && sliceOk lo hi n, .sl id (off + loN lo * te.size) te.size (hiN n hi - loN lo))
          | none => none
        | none => none
      | _ => none
    | none => none
  | .arr n e, .ptr id off => match G.ty e with
    | some te => match entCells H id with
      | some c => some ((leB (off + n * te.size) (szL c) && te.size != 0) && sliceOk lo hi n, .sl id (off + loN lo * te.size) te.size (hiN n hi - loN lo))
      | none => none
    | none => none
  | _, _ => none

/-- A slice with a bound for what it may grow to. -/
def aSl3 (ti : TI) (x : AV) (lo : Option Int) (hi mx : Int) : Option (Bool × AV) :=
  match ti.kind, x with
  | .slice e, .vec8 _ l => match G.ty e with
    | some te => some ((te.size == 1 && hi == mx) && sliceOk lo (some hi) l.length, .vec8 true (sliceL lo (some hi) l))
    | none => none
  | .slice e, .vec _ k rows => match G.ty e with
    | some te => some ((te.size == k && hi == mx) && sliceOk lo (some hi) rows.length, .vec true k (sliceL lo (some hi) rows))
    | none => none
  | _, _ => none
end

section
variable {P : Program} {G : Env P} {ρ : Rho} {I : Imm} {H : Heap} {w : World}

theorem isNone_hi {hi : Option Int} {len cap : Nat} {full : Bool} (hf : full = true → cap = len) : (full && hi.isNone) = true → cap = hiN len hi := by
  intro h
  simp only [Bool.and_eq_true, Option.isNone_iff_eq_none] at h
  obtain ⟨h1, rfl⟩ := h
  exact hf h1

theorem sl_sound {g : Nat → Option (List AV)} (c : Conc g ρ I H w) {t : Nat} {ti : TI} (ht : G.ty t = some ti) {x : AV} {vx : Value} (r : rel ρ I w x vx) {lo hi : Option Value} {lo' hi' : Option Int} (h1 : BV lo lo') (h2 : BV hi hi') {p : Bool × AV}
    (h : aSl G ti H x lo' hi' = some p) (hp : p.1 = true) : ∃ y, (Instr.sliceAt t vx lo hi none).run P w = .ok y w ∧ rel ρ I w p.2 y := by
  obtain ⟨j, d, _, q2, _, _, q5, _⟩ := ty_ok ht
  unfold aSl at h
  split at h
  · rename_i s hk
    simp only [Option.some.injEq] at h
    subst h
    rw [hk] at q5
    obtain rfl := TK.of_string q5
    obtain rfl := rel_str.1 r
    have hp : sliceOk lo' hi' s.length = true := hp
    have hb := run_bounds (P := P) (w := w) (b := false) (len := s.length) (cap := s.length) h1 h2 hp (Nat.le_refl _)
    refine ⟨_, run_sliceAt_str q2 (by simpa [ByteArray.size] using hb), rel_str.2 ?_⟩
    rw [extract_mk, sliceL_eq hp]
  · rename_i e full l hk
    split at h
    · rename_i te hte
      simp only [Option.some.injEq] at h
      subst h
      rw [hk] at q5
      obtain rfl := TK.of_slice q5
      have hv := rel_vec8.1 r
      obtain ⟨a, cap, rfl, k2, k3, k4⟩ := hv
      have hv := rel_vec8.1 r
      simp only [Bool.and_eq_true, beq_iff_eq] at hp
      obtain ⟨hs, hp⟩ := hp
      obtain ⟨o1, o2, _, _⟩ := sliceOk_spec hp
      have hb := run_bounds (P := P) (w := w) (b := true) (len := l.length) (cap := cap) h1 h2 hp k2
      refine ⟨_, run_sliceAt_sl q2 hte hb, rel_vec8.2 ?_⟩
      rw [hs, length_sliceL hp, v8_slice hp]
      exact vecR_slice hv o1 o2 (Nat.le_refl _) (by omega) (isNone_hi k3)
    · simp at h
  · rename_i e full k rows hk
    split at h
    · rename_i te hte
      simp only [Option.some.injEq] at h
      subst h
      rw [hk] at q5
      obtain rfl := TK.of_slice q5
      obtain ⟨hsz, vs, hr, hv⟩ := rel_vec.1 r
      have hv' := hv
      obtain ⟨a, cap, rfl, k2, k3, k4⟩ := hv'
      simp only [Bool.and_eq_true, beq_iff_eq] at hp
      obtain ⟨hs, hp⟩ := hp
      obtain ⟨o1, o2, _, _⟩ := sliceOk_spec hp
      have hb := run_bounds (P := P) (w := w) (b := true) (len := rows.length) (cap := cap) h1 h2 hp k2
      obtain ⟨r1, r2⟩ := RL_slice hsz hr hp
      refine ⟨_, run_sliceAt_sl q2 hte hb, rel_vec.2 ⟨r2, _, r1, ?_⟩⟩
      rw [hs, length_sliceL hp]
      exact vecR_slice hv o1 o2 (Nat.le_refl _) (by omega) (isNone_hi k3)
    · simp at h
  · rename_i e full k m f hk
    split at h
    · rename_i te hte
      simp only [Option.some.injEq] at h
      subst h
      rw [hk] at q5
      obtain rfl := TK.of_slice q5
      obtain ⟨hpu, vs, hvl, hr, hv⟩ := rel_vecr.1 r
      have hv' := hv
      obtain ⟨a, cap, rfl, k2, k3, k4⟩ := hv'
      simp only [Bool.and_eq_true, beq_iff_eq] at hp
      obtain ⟨hs, hp⟩ := hp
      obtain ⟨o1, o2, _, _⟩ := sliceOk_spec hp
      have hb := run_bounds (P := P) (w := w) (b := true) (len := m) (cap := cap) h1 h2 hp k2
      refine ⟨_, run_sliceAt_sl q2 hte hb, rel_vecr.2 ⟨fun i hi => hpu _ (by omega), (vs.drop (loN lo' * k)).take ((hiN m hi' - loN lo') * k), ?_, fun i hi => ?_, ?_⟩⟩
      · rw [List.length_take, List.length_drop, hvl, ← Nat.sub_mul, Nat.min_eq_left]
        exact Nat.mul_le_mul_right k (by omega)
      · have e : ((List.take ((hiN m hi' - loN lo') * k) (List.drop (loN lo' * k) vs)).drop (i * k)).take k = (vs.drop ((loN lo' + i) * k)).take k := by
          rw [List.drop_take, List.drop_drop, List.take_take, Nat.add_mul, Nat.min_eq_left]
          rw [← Nat.sub_mul]
          have : 1 * k ≤ (hiN m hi' - loN lo' - i) * k := Nat.mul_le_mul_right k (by omega)
          omega
        rw [e]
        exact hr _ (by omega)
      · rw [hs]
        exact vecR_slice hv o1 o2 (Nat.le_refl _) (by omega) (isNone_hi k3)
    · simp at h
  · rename_i e id k m f hk
    split at h
    · rename_i te hte
      simp only [Option.some.injEq] at h
      subst h
      rw [hk] at q5
      obtain rfl := TK.of_slice q5
      obtain ⟨hpu, vs, hvl, hr, hv⟩ := rel_vecr.1 (rel_slv.1 r).1
      have hv' := hv
      obtain ⟨a, cap, rfl, k2, k3, k4⟩ := hv'
      simp only [Bool.and_eq_true, beq_iff_eq] at hp
      obtain ⟨hs, hp⟩ := hp
      obtain ⟨o1, o2, _, _⟩ := sliceOk_spec hp
      have hb := run_bounds (P := P) (w := w) (b := true) (len := m) (cap := cap) h1 h2 hp k2
      refine ⟨_, run_sliceAt_sl q2 hte hb, rel_vecr.2 ⟨fun i hi => hpu _ (by omega), (vs.drop (loN lo' * k)).take ((hiN m hi' - loN lo') * k), ?_, fun i hi => ?_, ?_⟩⟩
      · rw [List.length_take, List.length_drop, hvl, ← Nat.sub_mul, Nat.min_eq_left]
        exact Nat.mul_le_mul_right k (by omega)
      · have e : ((List.take ((hiN m hi' - loN lo') * k) (List.drop (loN lo' * k) vs)).drop (i * k)).take k = (vs.drop ((loN lo' + i) * k)).take k := by
          rw [List.drop_take, List.drop_drop, List.take_take, Nat.add_mul, Nat.min_eq_left]
          rw [← Nat.sub_mul]
          have : 1 * k ≤ (hiN m hi' - loN lo' - i) * k := Nat.mul_le_mul_right k (by omega)
          omega
        rw [e]
        exact hr _ (by omega)
      · rw [hs]
        exact vecR_slice hv o1 o2 (Nat.le_refl _) (by omega) (isNone_hi k3)
    · simp at h
  · rename_i e id off k len hk
    split at h
    · rename_i te hte
      simp only [Option.some.injEq] at h
      subst h
      rw [hk] at q5
      obtain rfl := TK.of_slice q5
      simp only [Bool.and_eq_true, beq_iff_eq] at hp
      obtain ⟨hs, hp⟩ := hp
      obtain ⟨o1, o2, _, _⟩ := sliceOk_spec hp
      obtain ⟨a, cap, rfl, k2, k3⟩ := slR_slice (rel_sl.1 r) o1 o2
      have hb := run_bounds (P := P) (w := w) (b := true) (len := len) (cap := cap) h1 h2 hp k2
      refine ⟨_, run_sliceAt_sl q2 hte hb, rel_sl.2 ?_⟩
      rw [hs]
      exact k3
    · simp at h
  · rename_i a id off hk
    split at h
    · rename_i ta hta
      split at h
      · rename_i n e hka
        split at h
        · rename_i te hte
          split at h
          · rename_i cs hcs
            simp only [Option.some.injEq] at h
            subst h
            rw [hk] at q5
            obtain rfl := TK.of_ptr q5
            obtain ⟨ja, da, _, q2a, _, _, q5a, _⟩ := ty_ok hta
            rw [hka] at q5a
            obtain rfl := TK.of_arr q5a
            simp only [Bool.and_eq_true, bne_iff_ne, ne_eq] at hp
            obtain ⟨⟨hle, hne⟩, hp⟩ := hp
            have hle := leB_iff.1 hle
            obtain ⟨o1, o2, _, _⟩ := sliceOk_spec hp
            obtain ⟨b, g1, rfl⟩ := rel_ptr.1 r
            obtain ⟨el, fr, us, rest, g2, g3, g4, g5⟩ := ent_block c hcs g1
            have hlen := RL_len _ _ g3
            have hb := run_bounds (P := P) (w := w) (b := false) (len := n) (cap := n) h1 h2 hp (Nat.le_refl _)
            refine ⟨slicedAt ⟨b, off, none⟩ (loN lo') (hiN n hi') n te.size, ?_, rel_sl.2 ?_⟩
            · simp [Instr.sliceAt, Instr.sureAddr, Instr.slice, asAddr, run_underlying q2, run_underlying q2a, hb, run_sizeOfE hte, slicedAt]
            · by_cases e1 : n = loN lo'
              · right
                have : hiN n hi' = n := by omega
                exact ⟨by omega, some ⟨b, off, none⟩, by rw [slicedAt, if_pos e1, this, ← e1, Nat.sub_self]⟩
              · left
                refine ⟨b, n - loN lo', g1, by simp [slicedAt, e1, addr_add], by omega, (Array.getElem?_eq_some_iff.1 g2).1, ?_⟩
                unfold bsz
                rw [g2]
                have : (n - loN lo') * te.size + loN lo' * te.size = n * te.size := by rw [← Nat.add_mul]; congr 1; omega
                simp
                omega
          · simp at h
        · simp at h
      · simp at h
    · simp at h
  · rename_i n e id off hk
    split at h
    · rename_i te hte
      split at h
      · rename_i cs hcs
        simp only [Option.some.injEq] at h
        subst h
        rw [hk] at q5
        obtain rfl := TK.of_arr q5
        simp only [Bool.and_eq_true, bne_iff_ne, ne_eq] at hp
        obtain ⟨⟨hle, hne⟩, hp⟩ := hp
        have hle := leB_iff.1 hle
        obtain ⟨o1, o2, _, _⟩ := sliceOk_spec hp
        obtain ⟨b, g1, rfl⟩ := rel_ptr.1 r
        obtain ⟨el, fr, us, rest, g2, g3, g4, g5⟩ := ent_block c hcs g1
        have hlen := RL_len _ _ g3
        have hb := run_bounds (P := P) (w := w) (b := false) (len := n) (cap := n) h1 h2 hp (Nat.le_refl _)
        refine ⟨slicedAt ⟨b, off, none⟩ (loN lo') (hiN n hi') n te.size, ?_, rel_sl.2 ?_⟩
        · simp [Instr.sliceAt, Instr.sureAddr, run_underlying q2, hb, run_sizeOfE hte, slicedAt]
        · by_cases e1 : n = loN lo'
          · right
            have : hiN n hi' = n := by omega
            exact ⟨by omega, some ⟨b, off, none⟩, by rw [slicedAt, if_pos e1, this, ← e1, Nat.sub_self]⟩
          · left
            refine ⟨b, n - loN lo', g1, by simp [slicedAt, e1, addr_add], by omega, (Array.getElem?_eq_some_iff.1 g2).1, ?_⟩
            unfold bsz
            rw [g2]
            have : (n - loN lo') * te.size + loN lo' * te.size = n * te.size := by rw [← Nat.add_mul]; congr 1; omega
            simp
            omega
      · simp at h
    · simp at h
  · simp at h

theorem sl3_sound {t : Nat} {ti : TI} (ht : G.ty t = some ti) {x : AV} {vx : Value} (r : rel ρ I w x vx) {lo hi mx : Option Value} {lo' : Option Int} {hi' mx' : Int} (h1 : BV lo lo') (h2 : BV hi (some hi')) (h3 : BV mx (some mx')) {p : Bool × AV}
    (h : aSl3 G ti x lo' hi' mx' = some p) (hp : p.1 = true) : ∃ y, (Instr.sliceAt t vx lo hi mx).run P w = .ok y w ∧ rel ρ I w p.2 y := by
  obtain ⟨j, d, _, q2, _, _, q5, _⟩ := ty_ok ht
  unfold aSl3 at h
  split at h
  · rename_i e full l hk
    split at h
    · rename_i te hte
      simp only [Option.some.injEq] at h
      subst h
      rw [hk] at q5
      obtain rfl := TK.of_slice q5
      obtain ⟨a, cap, rfl, k2, k3, k4⟩ := rel_vec8.1 r
      have hv := rel_vec8.1 r
      simp only [Bool.and_eq_true, beq_iff_eq] at hp
      obtain ⟨⟨hs, rfl⟩, hp⟩ := hp
      obtain ⟨o1, o2, _, _⟩ := sliceOk_spec hp
      have hb := run_bounds3 (P := P) (w := w) (b := true) (len := l.length) (cap := cap) h1 h2 h3 hp k2
      refine ⟨_, run_sliceAt_sl q2 hte hb, rel_vec8.2 ?_⟩
      rw [hs, length_sliceL hp, v8_slice hp]
      simp only [hiN] at o1 o2 ⊢
      exact vecR_slice hv o1 o2 (by omega) (Nat.le_refl _) (fun _ => rfl)
    · simp at h
  · rename_i e full k rows hk
    split at h
    · rename_i te hte
      simp only [Option.some.injEq] at h
      subst h
      rw [hk] at q5
      obtain rfl := TK.of_slice q5
      obtain ⟨hsz, vs, hr, hv⟩ := rel_vec.1 r
      have hv' := hv
      obtain ⟨a, cap, rfl, k2, k3, k4⟩ := hv'
      simp only [Bool.and_eq_true, beq_iff_eq] at hp
      obtain ⟨⟨hs, rfl⟩, hp⟩ := hp
      obtain ⟨o1, o2, _, _⟩ := sliceOk_spec hp
      have hb := run_bounds3 (P := P) (w := w) (b := true) (len := rows.length) (cap := cap) h1 h2 h3 hp k2
      obtain ⟨r1, r2⟩ := RL_slice hsz hr hp
      refine ⟨_, run_sliceAt_sl q2 hte hb, rel_vec.2 ⟨r2, _, r1, ?_⟩⟩
      rw [hs, length_sliceL hp]
      simp only [hiN] at o1 o2 ⊢
      exact vecR_slice hv o1 o2 (by omega) (Nat.le_refl _) (fun _ => rfl)
    · simp at h
  · simp at h
end
section
variable {P : Program} {G : Env P} {ρ : Rho} {I : Imm} {H : Heap} {w : World}

theorem RL_replicate {a : AV} {xs : List Value} (h : R ρ I w a xs) : ∀ (n : Nat), RL ρ I w (List.replicate n a) (List.replicate n xs).flatten
  | 0 => by simp [RL]
  | n + 1 => by
    rw [List.replicate_succ, List.replicate_succ, List.flatten_cons]
    exact ⟨_, _, rfl, h, RL_replicate h n⟩

theorem made_list (z : Array Value) (hz : 0 < z.size) (m : Nat) : ((Array.range (m * z.size)).map (z[· % z.size]!)).toList = (List.replicate m z.toList).flatten := by
  apply List.ext_getElem?
  have hlen : ∀ m, (List.replicate m z.toList).flatten.length = m * z.size := fun m => by simp
  intro i
  rcases Nat.lt_or_ge i (m * z.size) with hi | hi
  · have key : ∀ m i, i < m * z.size → (List.replicate m z.toList).flatten[i]? = z[i % z.size]? := by
      intro m
      induction m with
      | zero => intro i h; omega
      | succ m ih =>
        intro i h
        rw [List.replicate_succ, List.flatten_cons]
        rcases Nat.lt_or_ge i z.size with h1 | h1
        · rw [List.getElem?_append_left (by simpa using h1), Nat.mod_eq_of_lt h1]; simp
        · rw [List.getElem?_append_right (by simpa using h1)]
          have : i - z.toList.length = i - z.size := by simp
          rw [this, ih (i - z.size) (by rw [Nat.add_mul] at h; omega)]
          congr 1
          exact (Nat.mod_eq_sub_mod h1).symm
    rw [key m i hi]
    have hmod : i % z.size < z.size := Nat.mod_lt _ hz
    simp [hi, hmod]
  · rw [List.getElem?_eq_none (by simpa using hi), List.getElem?_eq_none (by rw [hlen]; exact hi)]

theorem RL_u8s : ∀ (n : Nat), (List.replicate n [Value.int .u8 0]).flatten = v8 (List.replicate n 0)
  | 0 => rfl
  | n + 1 => by rw [List.replicate_succ, List.flatten_cons, RL_u8s n]; simp [v8, List.replicate_succ]

/-- What a row that grows is entered as. -/
def rowEnt (u8 : Bool) (k : Nat) (l : List UInt8) (rows : List AV) : Ent := bif u8 then .grow8 l [] else .grow k rows []

/-- .. WHERE THERE IS NO ROOM: a new row. -/
theorem append_new {g : Nat → Option (List AV)} (c : Conc g ρ I H w) {nid : Nat} (hn : H[nid]? = some .res) {t tx ty e : Nat} {j : TypeInfo} {zv : Value} (ht : P.underlying t = some (.slice e)) (hj : P.info? e = some j) (hz : j.zero = some zv) (hzs : zv.cells.size = j.size)
    {base : Option Addr} {len cap n : Nat} {olds news : List Value} {x : Value} (hold : (Builtin.firstCells j.size len (.slice base len cap)).run P w.drew = .ok olds.toArray w.drew) (hol : olds.length = len * j.size) (hs : Src P j.size tx x n news w)
    (hg : cap < len + n) (hb : (len + n) * j.bytes ≤ 140737488355328) (hb0 : 0 < j.bytes) {ent : Ent} (he : ent.grows = true) (hev : ent.even) (hr : RL ρ I w ent.cells (olds ++ news)) :
    ∃ v w', (Builtin.append_ #[t, tx] ty #[.slice base len cap, x]).run P w = .ok v w' ∧ Good ρ I H w (bindR ρ nid (some w.heap.size)) I (H.set nid ent) w' ∧ Conc g (bindR ρ nid (some w.heap.size)) I (H.set nid ent) w' ∧
      Mono ρ I w (bindR ρ nid (some w.heap.size)) I w' ∧ rel (bindR ρ nid (some w.heap.size)) I w' (.sl nid 0 j.size (len + n)) v := by
  have h63 : ((len + n : Nat) : Int) ≤ 9223372036854775807 := by
    have : len + n ≤ (len + n) * j.bytes := Nat.le_mul_of_pos_right _ hb0
    omega
  have hrun := run_append_grow_src w t tx ty e j zv ht hj hz base len cap olds hold x n news hs hg h63 (growslice_fits hg hb)
  have harr : ((olds ++ news).toArray ++ Builtin.zeroCells zv.cells (grownCap w (len + n) cap e - (len + n))) = ((olds ++ news) ++ (Builtin.zeroCells zv.cells (grownCap w (len + n) cap e - (len + n))).toList).toArray := by simp
  rw [harr] at hrun
  have hge := grownCap_ge w (len + n) cap e
  have hzl : (Builtin.zeroCells zv.cells (grownCap w (len + n) cap e - (len + n))).toList.length = (grownCap w (len + n) cap e - (len + n)) * j.size := by
    rw [Array.length_toList, size_zeroCells, hzs]
  have hnew := alloc_new w.drew (.cells ((olds ++ news) ++ (Builtin.zeroCells zv.cells (grownCap w (len + n) cap e - (len + n))).toList).toArray e)
  obtain ⟨g1, g2, g3⟩ := new_grow (w' := w.drew.alloc (.cells ((olds ++ news) ++ (Builtin.zeroCells zv.cells (grownCap w (len + n) cap e - (len + n))).toList).toArray e)) c hn he hev (by simp) (fun b hb => alloc_old w.drew _ hb) hnew hr ⟨Nat.le_refl _, fun o _ => by simp⟩ rfl rfl rfl
  refine ⟨_, _, hrun, g1, g2, g3, new_sl (by simp) hnew hge ?_⟩
  rw [List.length_append, List.length_append, hol, hs.newsLen, hzl, ← Nat.add_mul, ← Nat.add_mul]
  exact Nat.mul_le_mul_right _ (by omega)

theorem run_append_zero {t tx ty e : Nat} {j : TypeInfo} (ht : P.underlying t = some (.slice e)) (hj : P.info? e = some j) {base : Option Addr} {len cap : Nat} {x : Value} (hle : len ≤ cap) (hs : Src P j.size tx x 0 [] w) :
    (Builtin.append_ #[t, tx] ty #[.slice base len cap, x]).run P w = .ok (.slice base len cap) w := by
  have h1 := hs.len w
  have h2 := hs.cells
  rcases hs.kind with ⟨e', h⟩ | h
  · cases base with
    | none => simp [Builtin.append_, run_underlying ht, run_sizeOf hj, run_underlying h, h1, hle, h2]
    | some a => simp [Builtin.append_, run_underlying ht, run_sizeOf hj, run_underlying h, h1, hle, h2, storeCells]
  · cases base with
    | none => simp [Builtin.append_, run_underlying ht, run_sizeOf hj, run_underlying h, h1, hle, h2]
    | some a => simp [Builtin.append_, run_underlying ht, run_sizeOf hj, run_underlying h, h1, hle, h2, storeCells]

/-- Elements that are handed over, as values. -/
theorem olds_of {a : Option Addr} {len cap k : Nat} {vs : List Value} (hl : vs.length = len * k) (h : len = 0 ∨ ∃ b off, a = some ⟨b, off, none⟩ ∧ ∀ i x, vs[i]? = some x → w.cell? ⟨b, off + i, none⟩ = some x) :
    (Builtin.firstCells k len (.slice a len cap)).run P w.drew = .ok vs.toArray w.drew := by
  rcases h with rfl | ⟨b, off, rfl, h⟩
  · have : vs = [] := List.eq_nil_of_length_eq_zero (by simpa using hl)
    subst this
    cases a with
    | none => exact run_firstCells_none w.drew k 0 0 cap
    | some a => exact run_firstCells_some w.drew k 0 a 0 cap [] (by simp) (fun j u hu => by simp at hu)
  · exact run_firstCells_some w.drew k len ⟨b, off, none⟩ len cap vs hl (fun i x hx => by rw [addr_add]; simpa using h i x hx)

theorem src_of {tx e' : Nat} (hk : P.underlying tx = some (.slice e')) {a : Option Addr} {len cap k : Nat} {vs : List Value} (hl : vs.length = len * k) (h : len = 0 ∨ ∃ b off, a = some ⟨b, off, none⟩ ∧ ∀ i x, vs[i]? = some x → w.cell? ⟨b, off + i, none⟩ = some x)
    (h1 : ∀ u ∈ vs, u.oneCell' = true) : Src P k tx (.slice a len cap) len vs w := by
  rcases h with rfl | ⟨b, off, rfl, h⟩
  · have : vs = [] := List.eq_nil_of_length_eq_zero (by simpa using hl)
    subst this
    cases a with
    | none => exact Src.ofNil w hk cap
    | some a => exact Src.ofSlice w hk a 0 cap [] (by simp) (fun j u hu => by simp at hu) (fun u hu => by simp at hu)
  · exact Src.ofSlice w hk ⟨b, off, none⟩ len cap vs hl (fun i x hx => by rw [addr_add]; exact h i x hx) h1
end

section
variable {P : Program} {G : Env P} {ρ : Rho} {I : Imm} {H : Heap} {w : World}

theorem grows_live {e : Ent} (h : e.grows = true) : e.live = true := by cases e <;> simp_all [Ent.grows, Ent.live]

/-- A row that is owned, appended to. -/
theorem append_own {g : Nat → Option (List AV)} (c : Conc g ρ I H w) {nid id : Nat} (hn : H[nid]? = some .res) {e0 : Ent} (hid : H[id]? = some e0) (hg0 : e0.grows = true) {t tx ty e : Nat} {j : TypeInfo} {zv : Value}
    (ht : P.underlying t = some (.slice e)) (hj : P.info? e = some j) (hz : j.zero = some zv) (hzs : zv.cells.size = j.size) (hb0 : 0 < j.bytes) {len n : Nat} {v x : Value} {news : List Value} (hv : slR ρ w id 0 j.size len v) (h0 : szL e0.cells = len * j.size)
    (hs : Src P j.size tx x n news w) (hb : (len + n) * j.bytes ≤ 140737488355328) {ent : Ent} (he : ent.grows = true) (hev : ent.even) (hf : ent.frz = e0.frz)
    (hent : ∀ cs, (RL ρ I w e0.cells cs ∨ (len = 0 ∧ cs = [])) → RL ρ I w ent.cells (cs ++ news)) (hf0 : ∀ o, inFrz e0.frz o → o < len * j.size) :
    ∃ v' w' ρ', (Builtin.append_ #[t, tx] ty #[v, x]).run P w = .ok v' w' ∧ Good ρ I H w ρ' I (updH H [(nid, ent), (id, .dead)]) w' ∧ Conc g ρ' I (updH H [(nid, ent), (id, .dead)]) w' ∧ Mono ρ I w ρ' I w' ∧ rel ρ' I w' (.sl nid 0 j.size (len + n)) v' ∧ (∀ b, ρ' nid = some (some b) → ρ id = some (some b) ∨ w.heap.size ≤ b) := by
  have hne : id ≠ nid := by rintro rfl; rw [hid] at hn; simp at hn; subst hn; simp [Ent.grows] at hg0
  have hres : ∀ e1 : Ent, (H.set nid e1)[id]? ≠ some .res := by
    intro e1
    rw [List.getElem?_set_ne (Ne.symm hne), hid]
    intro h
    simp at h
    subst h
    simp [Ent.grows] at hg0
  -- a new row; the old one is forgotten
  have fresh : ∀ {base : Option Addr} {cap : Nat} {olds : List Value}, v = .slice base len cap → (Builtin.firstCells j.size len (.slice base len cap)).run P w.drew = .ok olds.toArray w.drew → olds.length = len * j.size → cap < len + n →
      RL ρ I w ent.cells (olds ++ news) → ∃ v' w' ρ', (Builtin.append_ #[t, tx] ty #[v, x]).run P w = .ok v' w' ∧ Good ρ I H w ρ' I (updH H [(nid, ent), (id, .dead)]) w' ∧ Conc g ρ' I (updH H [(nid, ent), (id, .dead)]) w' ∧ Mono ρ I w ρ' I w' ∧ rel ρ' I w' (.sl nid 0 j.size (len + n)) v' ∧ (∀ b, ρ' nid = some (some b) → ρ id = some (some b) ∨ w.heap.size ≤ b) := by
    rintro base cap olds rfl hold hol hg hr
    obtain ⟨v', w', k1, k2, k3, k4, k5⟩ := append_new (ty := ty) c hn ht hj hz hzs hold hol hs hg hb hb0 he hev hr
    obtain ⟨d1, d2⟩ := dead_conc k3 id (hres ent)
    exact ⟨v', w', _, k1, k2.trans d1, d2, k4, k5, fun b hb => .inr (by simp [bindR] at hb; omega)⟩
  rcases hv with ⟨b, cap, h1, rfl, h2, h3, h4⟩ | ⟨rfl, a, rfl⟩
  · obtain ⟨_, hgr⟩ := c.grow id e0 hid hg0
    rcases hgr with ⟨q1, _⟩ | ⟨b', el, fr, cs, rest, q1, q2, q3, q4⟩
    · rw [q1] at h1; simp at h1
    rw [q1] at h1
    simp only [Option.some.injEq] at h1
    subst h1
    have hcs : cs.length = len * j.size := by rw [RL_len _ _ q3, h0]
    have hbs : bsz w b' = (cs ++ rest).length := by unfold bsz; rw [q2]; simp
    have hcell : ∀ i x, cs[i]? = some x → w.cell? ⟨b', 0 + i, none⟩ = some x := fun i x hx => by
      rw [Nat.zero_add, cell_of_heap q2, List.getElem?_append_left (List.getElem?_eq_some_iff.1 hx).1]; exact hx
    by_cases hroom : len + n ≤ cap
    · rw [hbs] at h4
      have hnl := hs.newsLen
      have hle : len * j.size + news.length ≤ (cs ++ rest).length := by
        rw [hnl, ← Nat.add_mul]
        exact Nat.le_trans (Nat.mul_le_mul_right _ hroom) (by omega)
      have hrun := run_append_room_src w t tx ty e j ht hj b' 0 len cap x n news hs hroom
        (fun i hi => by rw [cell_of_heap q2, List.getElem?_eq_getElem (by omega)]; rfl)
        (fun i hi => by
          have := q4.2 (0 + len * j.size + i) (by omega)
          unfold World.frozen?
          rw [q2]
          simpa using this)
      rw [Nat.zero_add, setCells_rewr news (len * j.size) (cs ++ rest) w q2 hle] at hrun
      have hsp : spliceV (cs ++ rest) (len * j.size) news = (cs ++ news) ++ rest.drop news.length := by
        unfold spliceV
        rw [← hcs, List.take_left, ← List.drop_drop, List.drop_left, List.append_assoc]
      have hlen : (spliceV (cs ++ rest) (len * j.size) news).length = (cs ++ rest).length := length_spliceV hle
      have hfz : ∀ o, inFrz e0.frz o → (spliceV (cs ++ rest) (len * j.size) news)[o]? = (cs ++ rest)[o]? := fun o ho => spliceV_get_out hle (.inl (hf0 o ho))
      have gw := write_good (I := I) (e' := ent) hid (grows_live hg0) q1 q2 hlen hfz hf (fun _ => hg0)
      obtain ⟨cw, mw⟩ := write_conc (e' := ent) c hid (grows_live hg0) q1 q2 hlen hfz hf (fun _ => hg0) (grows_live he) q4 (fun cs' f h => by rw [h] at he; simp [Ent.grows] at he)
        (fun _ => ⟨hev, cs ++ news, rest.drop news.length, hsp, hent cs (.inl q3)⟩)
      have hlt : id < H.length := (List.getElem?_eq_some_iff.1 hid).1
      have hid1 : (H.set id ent)[id]? = some ent := by simp [hlt]
      have hn1 : (H.set id ent)[nid]? = some .res := by rw [List.getElem?_set_ne hne]; exact hn
      obtain ⟨m1, m2, m3⟩ := move_conc cw hid1 (grows_live he) q1 hn1
      have hset : ((H.set id ent).set nid ent).set id .dead = updH H [(nid, ent), (id, .dead)] := by
        show _ = (H.set nid ent).set id .dead
        rw [List.set_comm _ _ hne, List.set_set]
      rw [hset] at m1 m2
      refine ⟨_, _, _, hrun, gw.trans m1, m2, ⟨fun i x h => m3.ext i x (mw.ext i x h), fun b o h => ?_, fun b h => ?_⟩, rel_sl.2 (.inl ⟨b', cap, by simp [bindR], rfl, hroom, ?_, ?_⟩), fun b hb => .inl (by simp [bindR] at hb; rw [q1, hb])⟩
      · exact ⟨(m3.imm b o (mw.imm b o h).1).1, ((m3.imm b o (mw.imm b o h).1).2).trans (mw.imm b o h).2⟩
      · exact ⟨(m3.sz b (mw.sz b h).1).1, ((m3.sz b (mw.sz b h).1).2).trans (mw.sz b h).2⟩
      · exact (mw.sz b' h3).1
      · rw [(mw.sz b' h3).2, hbs]; exact h4
    · exact fresh rfl (olds_of hcs (.inr ⟨b', 0, rfl, hcell⟩)) hcs (by omega) (hent cs (.inl q3))
  · rcases Nat.eq_zero_or_pos n with rfl | hpos
    · have hnews : news = [] := List.eq_nil_of_length_eq_zero (by rw [hs.newsLen, Nat.zero_mul])
      subst hnews
      have hrun := run_append_zero (ty := ty) ht hj (base := a) (Nat.le_refl 0) hs
      have hr := hent [] (.inr ⟨rfl, rfl⟩)
      have hsz : szL ent.cells = 0 := by have := RL_len _ _ hr; simpa using this.symm
      obtain ⟨f1, f2, f3⟩ := fill_gen (w' := w) c hn ent none (fun b hb => by simp at hb) (Nat.le_refl _) (fun _ _ => rfl) (grows_live he) (fun cs' f h => by rw [h] at he; simp [Ent.grows] at he) (fun _ => ⟨hev, .inl ⟨rfl, hsz⟩⟩) rfl rfl rfl
      obtain ⟨d1, d2⟩ := dead_conc f2 id (hres ent)
      exact ⟨_, _, _, hrun, f1.trans d1, d2, f3, rel_sl.2 (.inr ⟨rfl, a, rfl⟩), fun b hb => by simp [bindR] at hb⟩
    · exact fresh rfl (olds_of (vs := []) (by simp) (.inl rfl)) (by simp) (by omega) (hent [] (.inr ⟨rfl, rfl⟩))
end

section
variable {P : Program} (G : Env P)

/-- Bytes that are handed over. -/
def srcB (tix : TI) (H : Heap) (x : AV) : Option (Bool × List UInt8) :=
  match x with
  | .str s => match tix.kind with
    | .string => some (true, s)
    | _ => none
  | x => match tix.kind with
    | .slice _ => content8 H x
    | _ => none

/-- Elements that are handed over. -/
def srcR (tix : TI) (H : Heap) (x : AV) : Option (Nat × Bool × List AV) :=
  match tix.kind with
  | .slice _ => match x with
    | .vec _ k rows => some (k, true, rows)
    | .vecr _ k n f => some (k, true, (List.range n).map fun i => .agg (f i))
    | .slv _ k n f => some (k, true, (List.range n).map fun i => .agg (f i))
    | .sl id off k len => match H[id]? with
      | some (.grow k' rows _) => some (k, (k == k' && off == 0) && leB len rows.length, rows.take len)
      | _ => none
    | _ => none
  | _ => none

/-- The byte 0. -/
def isZ8 : AV → Bool
  | .u8 x => x == 0
  | _ => false

/-- Elements of which rows can be made. -/
def elOk (te : TI) (z : AV) : Bool := (known z && szA z == te.size) && (te.bytes != 0 && te.size != 0)

def appB (te : TI) (H : Heap) (nid : Nat) (s : AV) (new : List UInt8) : Option Eff :=
  match s with
  | .vec8 full l => some (.br l.isEmpty
      (.ck full (.ck (leB (new.length * te.bytes) 140737488355328) (.one true (.sl nid 0 1 new.length) [(nid, .grow8 new [])])))
      (.br new.isEmpty (.one true (.vec8 full l) []) (.ck full (.ck (leB ((l.length + new.length) * te.bytes) 140737488355328) (.one true (.sl nid 0 1 (l.length + new.length)) [(nid, .grow8 (l ++ new) [])])))))
  | .sl id off k len => match H[id]? with
    | some (.grow8 l f) => some (.ck ((off == 0 && k == 1) && f.isEmpty) (.ck (len == l.length) (.ck (leB ((len + new.length) * te.bytes) 140737488355328)
        (.one true (.sl nid 0 1 (len + new.length)) [(nid, .grow8 (l ++ new) []), (id, .dead)]))))
    | _ => none
  | _ => none

def appR (te : TI) (H : Heap) (nid : Nat) (s : AV) (new : List AV) : Option Eff :=
  match s with
  | .vec full k l => some (.ck (k == te.size) (.br l.isEmpty
      (.ck full (.ck (leB (new.length * te.bytes) 140737488355328) (.one true (.sl nid 0 te.size new.length) [(nid, .grow te.size new [])])))
      (.br new.isEmpty (.one true (.vec full k l) []) (.ck full (.ck (leB ((l.length + new.length) * te.bytes) 140737488355328) (.one true (.sl nid 0 te.size (l.length + new.length)) [(nid, .grow te.size (l ++ new) [])]))))))
  | .sl id off k len => match H[id]? with
    | some (.grow k' l f) => some (.ck ((off == 0 && (k == te.size && k' == te.size)) && f.isEmpty) (.ck (len == l.length) (.ck (leB ((len + new.length) * te.bytes) 140737488355328)
        (.one true (.sl nid 0 te.size (len + new.length)) [(nid, .grow te.size (l ++ new) []), (id, .dead)]))))
    | _ => none
  | .vec8 full l => some (.ck l.isEmpty (.ck full (.ck (leB (new.length * te.bytes) 140737488355328) (.one true (.sl nid 0 te.size new.length) [(nid, .grow te.size new [])]))))
  | _ => none

/-- A type of strings, if there is one. -/
def strT : Nat → Option Nat
  | 0 => none
  | n + 1 => match G.ty n with
    | some ti => match ti.kind with
      | .string => some n
      | _ => strT n
    | none => strT n
/-- So many noughts that are handed over, to a slice of this length. -/
def srcZ (tix : TI) (s x : AV) : Option (Int × Nat) :=
  match tix.kind, x, strT G 64 with
  | .int _, .int .i64 n, some _ => match s with
    | .vec8 _ l => some (n, l.length)
    | .sl _ _ _ len => some (n, len)
    | _ => none
  | _, _, _ => none

def aAppend (t tx : Nat) (H : Heap) (nid : Nat) (s x : AV) : Option Eff :=
  match G.ty t, G.ty tx with
  | some ti, some tix => match ti.kind with
    | .slice e => match G.ty e with
      | some te => match te.zero with
        | some z => match te.kind with
          | .int .u8 => match srcB tix H x with
            | some (c, new) => match appB te H nid s new with
              | some E => some (.ck (isRes H nid && (elOk te z && te.size == 1)) (.ck c E))
              | none => none
            | none => match srcZ G tix s x with
              | some (n, len) => match appB te H nid s (List.replicate n.toNat 0) with
                | some E => some (.ck (isRes H nid && (elOk te z && te.size == 1)) (.ck (isZ8 z && nnB n) (.ck (leB ((len + n.toNat) * te.bytes) 140737488355328) E)))
                | none => none
              | none => none
          | _ => match srcR tix H x with
            | some (k, c, new) => match appR te H nid s new with
              | some E => some (.ck (isRes H nid && (elOk te z && k == te.size)) (.ck c (.ck (oneL new) E)))
              | none => none
            | none => none
        | none => none
      | none => none
    | _ => none
  | _, _ => none

/-- Bytes copied into what is owned. -/
def aCopy (t tx : Nat) (H : Heap) (d x : AV) : Option Eff :=
  match G.ty t, G.ty tx with
  | some ti, some tix => match ti.kind with
    | .slice e => match G.ty e with
      | some te => match srcB tix H x with
        | some (c, new) => match d with
          | .sl id off k len => match H[id]? with
            | some (.grow8 l f) => some (.ck (te.size == 1 && (k == 1 && f.isEmpty)) (.ck c (.ck (leB (off + len) l.length)
                (.one true (.int .i64 (min new.length len : Nat)) [(id, .grow8 (l.take off ++ (new.take len ++ l.drop (off + min new.length len))) f)]))))
            | some (.blk cs f) => match takeL (dropL cs off) len with
              | [.b8 m l] => some (.ck ((te.size == 1 && (k == 1 && f.isEmpty)) && ((m == len && len != 0) && leB (off + len) (szL cs))) (.ck c
                  (.one true (.int .i64 (min new.length len : Nat)) [(id, .blk (setL cs off (.b8 len (new.take len ++ l.drop (min new.length len)))) f)])))
              | _ => none
            | _ => none
          | _ => none
        | none => none
      | none => none
    | _ => none
  | _, _ => none

def aMake (t : Nat) (H : Heap) (nid : Nat) (l c : AV) : Option Eff :=
  match G.ty t, l.toI, c.toI with
  | some ti, some (_, n), some (_, m) => match ti.kind with
    | .slice e => match G.ty e with
      | some te => match te.zero with
        | some z => some (.ck (isRes H nid && elOk te z) (.ck (nnB n) (.ck (n == m) (.ck (leB (n.toNat * te.bytes) 140737488355328) (match te.kind with
          | .int .u8 => .ck (te.size == 1 && isZ8 z) (.one true (.sl nid 0 1 n.toNat) [(nid, .grow8 (List.replicate n.toNat 0) [])])
          | _ => .one true (.sl nid 0 te.size n.toNat) [(nid, .grow te.size (List.replicate n.toNat z) [])])))))
        | none => none
      | none => none
    | _ => none
  | _, _, _ => none

def aBuildS (t : Nat) (len : Nat) (H : Heap) (nid : Nat) (parts : List (Nat × AV)) : Option Eff :=
  match G.ty t with
  | some ti => match ti.kind with
    | .slice e => match G.ty e with
      | some te => match te.zero with
        | some z => match te.kind with
          | .int .u8 => bif len == 0 then some (.one parts.isEmpty (.vec8 true []) []) else match afill (aplaceE te.size) [.b8 len (List.replicate len 0)] parts with
            | some (c, [.b8 m l]) => some (.ck ((isRes H nid && (elOk te z && (te.size == 1 && isZ8 z))) && (m == len && leB len 16777216)) (.one c (.sl nid 0 1 len) [(nid, .grow8 l [])]))
            | some (c, [.u8 x]) => some (.ck ((isRes H nid && (elOk te z && (te.size == 1 && isZ8 z))) && len == 1) (.one c (.sl nid 0 1 1) [(nid, .grow8 [x] [])]))
            | _ => none
          | _ => bif len == 0 then some (.one parts.isEmpty (.vec true te.size []) []) else match afill (aplaceE te.size) (List.replicate len z) parts with
            | some (c, rows) => some (.ck ((isRes H nid && elOk te z) && (rows.length == len && leB (len * te.size) 16777216)) (.ck (rows.all fun r => szA r == te.size) (.one c (.sl nid 0 te.size len) [(nid, .grow te.size rows [])])))
            | none => none
        | none => none
      | none => none
    | _ => none
  | none => none

/-- Operations on slices. -/
def slOps (op : Op) (ev : Operand → AV) (H : Heap) (nid : Nat) : Option Eff :=
  match op with
  | .slice t x lo hi mx => match G.ty t, optI ev lo, optI ev hi with
    | some ti, some lo', some hi' => match mx with
      | none => match aSl G ti H (ev x) lo' hi' with
        | some (c, v) => some (.one c v [])
        | none => none
      | some m => match hi', (ev m).toI with
        | some h, some (_, n) => match aSl3 G ti (ev x) lo' h n with
          | some (c, v) => some (.one c v [])
          | none => none
        | _, _ => none
    | _, _, _ => none
  | .makeSlice t l c => aMake G t H nid (ev l) (ev c)
  | .buildSlice t len parts => aBuildS G t len H nid (parts.toList.map fun p => (p.1, ev p.2))
  | .convert s d x => match G.ty s, G.ty d, ev x with
    | some ts, some td, .sl id off k len => match ts.kind, td.kind with
      | .slice _, .slice e => match G.ty e with
        | some te => match te.kind with
          | .int .u8 => match H[id]? with
            | some (.grow8 _ f) => some (.ck ((s == d && f.isEmpty) && ltB 0 len) (.one true (.sl id off k len) []))
            | _ => none
          | _ => none
        | none => none
      | _, _ => none
    | some ts, some td, .str l => match ts.kind, td.kind with
      | .string, .slice e => match G.ty e with
        | some te => match te.kind with
          | .int .u8 => some (.ck (isRes H nid && te.size == 1) (.one true (.sl nid 0 1 l.length) [(nid, .grow8 l [])]))
          | _ => none
        | none => none
      | _, _ => none
    | _, _, _ => none
  | .call c => match c.callee with
    | .builtin .append => match c.args.toList, c.argTypes.toList with
      | [s, x], [t, tx] => aAppend G t tx H nid (ev s) (ev x)
      | _, _ => none
    | .builtin .copy => match c.args.toList, c.argTypes.toList with
      | [d, x], [t, tx] => aCopy G t tx H (ev d) (ev x)
      | _, _ => none
    | _ => none
  | _ => none
end

section
variable {P : Program} {G : Env P} {ρ : Rho} {I : Imm} {H : Heap} {w : World}

theorem srcB_sound (c : Conc G.g ρ I H w) {tx : Nat} {tix : TI} (htx : G.ty tx = some tix) {x : AV} {vx : Value} (r : rel ρ I w x vx) {p : Bool} {l : List UInt8} (h : srcB tix H x = some (p, l)) (hp : p = true) : Src P 1 tx vx l.length (v8 l) w := by
  obtain ⟨j, d, _, q2, _, _, q5, _⟩ := ty_ok htx
  have one : ∀ l : List UInt8, ∀ u ∈ v8 l, u.oneCell' = true := fun l u hu => by
    simp only [v8, List.mem_map] at hu
    obtain ⟨y, _, rfl⟩ := hu
    rfl
  unfold srcB at h
  split at h
  · rename_i s
    split at h
    · rename_i hk
      simp only [Option.some.injEq, Prod.mk.injEq] at h
      obtain ⟨_, rfl⟩ := h
      rw [hk] at q5
      obtain rfl := TK.of_string q5
      obtain rfl := rel_str.1 r
      have := Src.ofString (P := P) w q2 ⟨s.toArray⟩
      have e : byteCells ⟨s.toArray⟩ = v8 s := by simp [byteCells, v8]
      rw [e] at this
      simpa [ByteArray.size] using this
    · simp at h
  · split at h
    · rename_i e' hk
      rw [hk] at q5
      obtain rfl := TK.of_slice q5
      obtain ⟨a, cap, rfl, hc⟩ := content8_sound c h hp r
      exact src_of q2 (by simp [length_v8]) (hc.imp (fun h => by rw [h]; rfl) fun ⟨b, off, h1, h2⟩ => ⟨b, off, h1, h2⟩) (one l)
    · simp at h

theorem RL_ranged {k : Nat} {f : Nat → List AV} : ∀ (n : Nat) (vs : List Value), vs.length = n * k → (∀ i, i < n → RL ρ I w (f i) ((vs.drop (i * k)).take k)) → RL ρ I w ((List.range n).map fun i => AV.agg (f i)) vs
  | 0, vs, h, _ => by
    rw [Nat.zero_mul] at h
    rw [List.eq_nil_of_length_eq_zero h]; rfl
  | n + 1, vs, h, hr => by
    have hs : (n + 1) * k = n * k + k := by rw [Nat.add_mul, Nat.one_mul]
    have ih := RL_ranged (k := k) (f := f) n (vs.take (n * k)) (by rw [List.length_take]; omega) fun i hi => by
      have h1 : (i + 1) * k ≤ n * k := Nat.mul_le_mul_right k (by omega)
      rw [Nat.add_mul, Nat.one_mul] at h1
      rw [List.drop_take, List.take_take, Nat.min_eq_left (by omega)]
      exact hr i (by omega)
    have hl := hr n (Nat.lt_succ_self n)
    rw [List.take_of_length_le (by rw [List.length_drop]; omega)] at hl
    rw [List.range_succ, List.map_append]
    have := RL_append ih (show RL ρ I w (List.map (fun i => AV.agg (f i)) [n]) (vs.drop (n * k)) from ⟨_, [], by simp, hl, rfl⟩)
    rwa [List.take_append_drop] at this

theorem srcR_sound (c : Conc G.g ρ I H w) {tx : Nat} {tix : TI} (htx : G.ty tx = some tix) {x : AV} {vx : Value} (r : rel ρ I w x vx) {p : Bool} {k : Nat} {rows : List AV} (h : srcR tix H x = some (k, p, rows)) (hp : p = true) (ho : oneL rows = true) :
    ∃ vs, RL ρ I w rows vs ∧ (∀ a ∈ rows, szA a = k) ∧ Src P k tx vx rows.length vs w := by
  obtain ⟨j, d, _, q2, _, _, q5, _⟩ := ty_ok htx
  have hlen : ∀ {rows : List AV} {vs : List Value}, (∀ a ∈ rows, szA a = k) → RL ρ I w rows vs → vs.length = rows.length * k := by
    intro rows
    induction rows with
    | nil => intro vs _ h; cases h; simp
    | cons a as ih =>
      intro vs hk h
      obtain ⟨ys, zs, rfl, h1, h2⟩ := RL_cons.1 h
      rw [List.length_append, R_len a ys h1, hk a (by simp), ih (fun b hb => hk b (by simp [hb])) h2, List.length_cons, Nat.add_mul, Nat.one_mul, Nat.add_comm]
  unfold srcR at h
  split at h
  · rename_i e' hk
    rw [hk] at q5
    obtain rfl := TK.of_slice q5
    split at h
    · rename_i full k' rows'
      simp only [Option.some.injEq, Prod.mk.injEq] at h
      obtain ⟨rfl, _, rfl⟩ := h
      obtain ⟨hsz, vs, hr, a, cap, rfl, h2, _, h4⟩ := rel_vec.1 r
      refine ⟨vs, hr, hsz, src_of q2 (hlen hsz hr) (h4.imp id ?_) (oneL_sound _ _ hr ho)⟩
      rintro ⟨b, off, rfl, _, hl⟩
      exact ⟨b, off, rfl, fun i x hx => (hl i x hx).1⟩
    · rename_i full k' n f
      simp only [Option.some.injEq, Prod.mk.injEq] at h
      obtain ⟨rfl, _, rfl⟩ := h
      obtain ⟨_, vs, hvl, hr, a, cap, rfl, h2, _, h4⟩ := rel_vecr.1 r
      have hr' := RL_ranged n vs hvl hr
      have hsz : ∀ a ∈ ((List.range n).map fun i => AV.agg (f i)), szA a = k' := by
        intro a ha
        obtain ⟨i, hi, rfl⟩ := List.mem_map.1 ha
        have := RL_len _ _ (hr i (List.mem_range.1 hi))
        rw [List.length_take, List.length_drop, hvl, ← Nat.sub_mul] at this
        have h1 : 1 * k' ≤ (n - i) * k' := Nat.mul_le_mul_right k' (by have := List.mem_range.1 hi; omega)
        show szL (f i) = k'
        omega
      refine ⟨vs, hr', hsz, ?_⟩
      have hl' : ((List.range n).map fun i => AV.agg (f i)).length = n := by simp
      rw [hl']
      refine src_of q2 hvl (h4.imp id ?_) (oneL_sound _ _ hr' ho)
      rintro ⟨b, off, rfl, _, hl⟩
      exact ⟨b, off, rfl, fun i x hx => (hl i x hx).1⟩
    · rename_i idx k' n f
      simp only [Option.some.injEq, Prod.mk.injEq] at h
      obtain ⟨rfl, _, rfl⟩ := h
      obtain ⟨_, vs, hvl, hr, a, cap, rfl, h2, _, h4⟩ := rel_vecr.1 (rel_slv.1 r).1
      have hr' := RL_ranged n vs hvl hr
      have hsz : ∀ a ∈ ((List.range n).map fun i => AV.agg (f i)), szA a = k' := by
        intro a ha
        obtain ⟨i, hi, rfl⟩ := List.mem_map.1 ha
        have := RL_len _ _ (hr i (List.mem_range.1 hi))
        rw [List.length_take, List.length_drop, hvl, ← Nat.sub_mul] at this
        have h1 : 1 * k' ≤ (n - i) * k' := Nat.mul_le_mul_right k' (by have := List.mem_range.1 hi; omega)
        show szL (f i) = k'
        omega
      refine ⟨vs, hr', hsz, ?_⟩
      have hl' : ((List.range n).map fun i => AV.agg (f i)).length = n := by simp
      rw [hl']
      refine src_of q2 hvl (h4.imp id ?_) (oneL_sound _ _ hr' ho)
      rintro ⟨b, off, rfl, _, hl⟩
      exact ⟨b, off, rfl, fun i x hx => (hl i x hx).1⟩
    · rename_i id off k' len
      split at h
      · rename_i k2 rows' f hid
        simp only [Option.some.injEq, Prod.mk.injEq] at h
        obtain ⟨rfl, rfl, rfl⟩ := h
        simp only [Bool.and_eq_true, beq_iff_eq] at hp
        obtain ⟨⟨rfl, rfl⟩, hle⟩ := hp
        have hle := leB_iff.1 hle
        obtain ⟨hev, hg⟩ := c.grow id _ hid rfl
        have hev' : ∀ a ∈ rows', szA a = k' := hev
        have hl' : (rows'.take len).length = len := by rw [List.length_take, Nat.min_eq_left hle]
        have hev2 : ∀ a ∈ rows'.take len, szA a = k' := fun a ha => hev' a (List.mem_of_mem_take ha)
        rcases rel_sl.1 r with ⟨bl, cap, h1, rfl, h3, h4, h5⟩ | ⟨rfl, a, rfl⟩
        · rcases hg with ⟨g1, _⟩ | ⟨b', el, fr, us, rest, g1, g2, g3, g4⟩
          · rw [g1] at h1; simp at h1
          · rw [g1] at h1
            simp only [Option.some.injEq] at h1
            subst h1
            have hr := RL_rowsTake len hev' g3
            refine ⟨_, hr, hev2, ?_⟩
            rw [hl']
            have hul := hlen hev2 hr
            rw [hl'] at hul
            refine src_of q2 hul (.inr ⟨b', 0, rfl, fun i x hx => ?_⟩) (oneL_sound _ _ hr ho)
            rw [Nat.zero_add, cell_of_heap g2]
            have hx' : us[i]? = some x := by
              rw [List.getElem?_take] at hx
              split at hx
              · exact hx
              · simp at hx
            rw [List.getElem?_append_left (List.getElem?_eq_some_iff.1 hx').1]
            exact hx'
        · exact ⟨[], by simp [RL], by simp, by simpa using src_of (w := w) (vs := []) q2 (by simp) (.inl rfl) (by simp)⟩
      · simp at h
    · simp at h
  · simp at h

theorem isZ8_spec {z : AV} (h : isZ8 z = true) {xs : List Value} (hr : R ρ I w z xs) : xs = [.int .u8 0] := by
  unfold isZ8 at h
  split at h
  · simp only [beq_iff_eq] at h
    subst h
    exact hr
  · simp at h

theorem elOk_spec {te : TI} {z : AV} (h : elOk te z = true) : known z = true ∧ szA z = te.size ∧ te.bytes ≠ 0 ∧ te.size ≠ 0 := by
  simp only [elOk, Bool.and_eq_true, beq_iff_eq, bne_iff_ne, ne_eq] at h
  exact ⟨h.1.1, h.1.2, h.2.1, h.2.2⟩

theorem el_info {e : Nat} {te : TI} (hte : G.ty e = some te) {z : AV} (hz : te.zero = some z) (h : elOk te z = true) :
    ∃ j zv, P.info? e = some j ∧ j.size = te.size ∧ j.bytes = te.bytes ∧ 0 < j.bytes ∧ 0 < j.size ∧ j.zero = some zv ∧ zv.cells.size = j.size ∧ (∀ (ρ : Rho) (I : Imm) (w : World), rel ρ I w z zv) ∧ (∀ (ρ : Rho) (I : Imm) (w : World), R ρ I w z zv.cells.toList) := by
  obtain ⟨k1, k2, k3, k4⟩ := elOk_spec h
  obtain ⟨j, d, h1, h2, h3, hb, h5, h6, _⟩ := ty_ok hte
  obtain ⟨zv, hzv, hck⟩ := h6 z hz
  have hr : ∀ (ρ : Rho) (I : Imm) (w : World), R ρ I w z zv.cells.toList := fun ρ I w => known_cells (chkV_sound hck ρ I w) k1
  refine ⟨j, zv, h1, h3.symm, hb.symm, by omega, by omega, hzv, ?_, fun ρ I w => chkV_sound hck ρ I w, hr⟩
  have := R_len z _ (hr (fun _ => none) (fun _ _ => False) ⟨default, default, default, default, default⟩)
  rw [Array.length_toList, k2, h3] at this
  exact this

/-- What an append comes to. -/
def AppOk (P : Program) (g : Nat → Option (List AV)) (ρ : Rho) (I : Imm) (H : Heap) (w : World) (t tx ty : Nat) (vs vx : Value) (v : AV) (u : List (Nat × Ent)) : Prop :=
  ∃ v' w' ρ', (Builtin.append_ #[t, tx] ty #[vs, vx]).run P w = .ok v' w' ∧ Good ρ I H w ρ' I (updH H u) w' ∧ Conc g ρ' I (updH H u) w' ∧ Mono ρ I w ρ' I w' ∧ rel ρ' I w' v v'

theorem Mono.refl' {ρ : Rho} {I : Imm} {w : World} : Mono ρ I w ρ I w := ⟨fun _ _ h => h, fun _ _ h => ⟨h, rfl⟩, fun _ h => ⟨h, rfl⟩⟩

/-- Onto a slice that nobody writes. -/
theorem app_vec {g : Nat → Option (List AV)} (c : Conc g ρ I H w) {nid : Nat} (hn : H[nid]? = some .res) {t tx ty e : Nat} {j : TypeInfo} {zv : Value} (ht : P.underlying t = some (.slice e)) (hj : P.info? e = some j) (hz : j.zero = some zv) (hzs : zv.cells.size = j.size)
    (hb0 : 0 < j.bytes) {len n : Nat} {vs news : List Value} {v x : Value} {full : Bool} (hv : vecR I w full len vs v) (hf : full = true) (hvl : vs.length = len * j.size) (hs : Src P j.size tx x n news w) (hb : (len + n) * j.bytes ≤ 140737488355328)
    {ent : Ent} (he : ent.grows = true) (hev : ent.even) (hr : RL ρ I w ent.cells (vs ++ news)) (hne : n ≠ 0 ∨ len = 0) : AppOk P g ρ I H w t tx ty v x (.sl nid 0 j.size (len + n)) [(nid, ent)] := by
  obtain ⟨a, cap, rfl, h2, h3, h4⟩ := hv
  have hcap := h3 hf
  subst hcap
  by_cases h0 : n = 0
  · subst h0
    have hl : cap = 0 := by omega
    subst hl
    have hnews : news = [] := List.eq_nil_of_length_eq_zero (by rw [hs.newsLen, Nat.zero_mul])
    have hvs : vs = [] := List.eq_nil_of_length_eq_zero (by rw [hvl, Nat.zero_mul])
    subst hnews
    subst hvs
    have hrun := run_append_zero (ty := ty) ht hj (base := a) (Nat.le_refl 0) hs
    have hsz : szL ent.cells = 0 := by have := RL_len _ _ hr; simpa using this.symm
    obtain ⟨f1, f2, f3⟩ := fill_gen (w' := w) c hn ent none (fun b hb => by simp at hb) (Nat.le_refl _) (fun _ _ => rfl) (grows_live he) (fun cs' f h => by rw [h] at he; simp [Ent.grows] at he) (fun _ => ⟨hev, .inl ⟨rfl, hsz⟩⟩) rfl rfl rfl
    exact ⟨_, _, _, hrun, f1, f2, f3, rel_sl.2 (.inr ⟨rfl, a, rfl⟩)⟩
  · have hold := olds_of (P := P) (w := w) (a := a) (cap := cap) hvl (h4.imp id fun ⟨b, off, k1, _, k3⟩ => ⟨b, off, k1, fun i x hx => (k3 i x hx).1⟩)
    obtain ⟨v', w', k1, k2, k3, k4, k5⟩ := append_new (ty := ty) c hn ht hj hz hzs hold hvl hs (by omega) hb hb0 he hev hr
    exact ⟨v', w', _, k1, k2, k3, k4, k5⟩

theorem app_same {g : Nat → Option (List AV)} (c : Conc g ρ I H w) {t tx ty e : Nat} {j : TypeInfo} (ht : P.underlying t = some (.slice e)) (hj : P.info? e = some j) {len : Nat} {vs : List Value} {v x : Value} {full : Bool} (hv : vecR I w full len vs v) (hs : Src P j.size tx x 0 [] w)
    {a : AV} (r : rel ρ I w a v) : AppOk P g ρ I H w t tx ty v x a [] := by
  obtain ⟨b, cap, rfl, h2, h3, h4⟩ := hv
  exact ⟨_, w, ρ, run_append_zero (ty := ty) ht hj h2 hs, Good.refl _ _ _ _, c, Mono.refl', r⟩

theorem RL_seg_app {l l' : List UInt8} : RL ρ I w [.b8 (l ++ l').length (l ++ l')] (v8 l ++ v8 l') := by rw [v8_append]; exact RL_seg8

theorem appB_sound (c : Conc G.g ρ I H w) {nid : Nat} (hn : H[nid]? = some .res) {t tx ty e : Nat} {te : TI} (ht : P.underlying t = some (.slice e)) (hte : G.ty e = some te) {z : AV} (hz : te.zero = some z) (hok : elOk te z = true) (h1 : te.size = 1) {s : AV} {vs vx : Value} (r : rel ρ I w s vs)
    {new : List UInt8} (hs : Src P 1 tx vx new.length (v8 new) w) {E : Eff} {v : AV} {u : List (Nat × Ent)} (h : appB te H nid s new = some E) (hh : E.has v u) : AppOk P G.g ρ I H w t tx ty vs vx v u := by
  obtain ⟨j, zv, hj, hjs, hjb, hb0, hs0, hjz, hzs, _, _⟩ := el_info hte hz hok
  have hj1 : j.size = 1 := by rw [hjs, h1]
  have hs' : Src P j.size tx vx new.length (v8 new) w := by rw [hj1]; exact hs
  unfold appB at h
  split at h
  · rename_i full l
    simp only [Option.some.injEq] at h
    subst h
    have hv := rel_vec8.1 r
    cases hl : l.isEmpty with
    | true =>
      simp only [Eff.has, hl] at hh
      obtain ⟨hf, hle, _, rfl, rfl⟩ := hh
      have hl0 : l = [] := by simpa using hl
      subst hl0
      have hle := leB_iff.1 hle
      have := app_vec (ty := ty) (ent := .grow8 new []) c hn ht hj hjz hzs hb0 hv hf (by simp [v8]) hs' (by rw [hjb]; simpa using hle) rfl trivial (show RL ρ I w [.b8 new.length new] (v8 new) from RL_seg8) (.inr rfl)
      rw [hj1] at this
      simpa using this
    | false =>
      cases hnw : new.isEmpty with
      | true =>
        simp only [Eff.has, hl, hnw] at hh
        obtain ⟨_, rfl, rfl⟩ := hh
        have hn0 : new = [] := by simpa using hnw
        subst hn0
        exact app_same c ht hj hv hs' r
      | false =>
        simp only [Eff.has, hl, hnw] at hh
        obtain ⟨hf, hle, _, rfl, rfl⟩ := hh
        have hle := leB_iff.1 hle
        have hne : new.length ≠ 0 := by
          intro h0
          rw [List.eq_nil_of_length_eq_zero h0] at hnw
          simp at hnw
        have := app_vec (ty := ty) (ent := .grow8 (l ++ new) []) c hn ht hj hjz hzs hb0 hv hf (by simp [length_v8, hj1]) hs' (by rw [hjb]; exact hle) rfl trivial RL_seg_app (.inl hne)
        rw [hj1] at this
        exact this
  · rename_i id off k len
    split at h
    · rename_i l f hid
      simp only [Option.some.injEq] at h
      subst h
      obtain ⟨hc, hlen, hle, _, rfl, rfl⟩ := hh
      simp only [Bool.and_eq_true, beq_iff_eq, List.isEmpty_iff] at hc hlen
      obtain ⟨⟨rfl, rfl⟩, rfl⟩ := hc
      subst hlen
      have hle := leB_iff.1 hle
      have := append_own (ty := ty) (e0 := .grow8 l []) (ent := .grow8 (l ++ new) []) c hn hid rfl ht hj hjz hzs hb0 (by rw [hj1]; exact rel_sl.1 r) (by simp [Ent.cells, szL, szA, hj1]) hs' (by rw [hjb]; exact hle) rfl trivial rfl ?_ (fun o ho => by obtain ⟨_, h, _⟩ := ho; simp [Ent.frz] at h)
      · rw [hj1] at this
        obtain ⟨v', w', ρ', k1, k2, k3, k4, k5, _⟩ := this
        exact ⟨v', w', ρ', k1, k2, k3, k4, k5⟩
      · intro cs hcs
        rcases hcs with hcs | ⟨h0, rfl⟩
        · obtain ⟨ys, zs, rfl, ⟨rfl, _⟩, h6⟩ := RL_cons.1 hcs
          cases h6
          rw [List.append_nil]
          exact RL_seg_app
        · rw [List.eq_nil_of_length_eq_zero h0]
          exact (show RL ρ I w [.b8 new.length new] (v8 new) from RL_seg8)
    · simp at h
  · simp at h

theorem appR_sound (c : Conc G.g ρ I H w) {nid : Nat} (hn : H[nid]? = some .res) {t tx ty e : Nat} {te : TI} (ht : P.underlying t = some (.slice e)) (hte : G.ty e = some te) {z : AV} (hz : te.zero = some z) (hok : elOk te z = true) {s : AV} {vs vx : Value} (r : rel ρ I w s vs)
    {new : List AV} {news : List Value} (hnr : RL ρ I w new news) (hnk : ∀ a ∈ new, szA a = te.size) (hs : Src P te.size tx vx new.length news w) {E : Eff} {v : AV} {u : List (Nat × Ent)} (h : appR te H nid s new = some E) (hh : E.has v u) : AppOk P G.g ρ I H w t tx ty vs vx v u := by
  obtain ⟨j, zv, hj, hjs, hjb, hb0, hs0, hjz, hzs, _, _⟩ := el_info hte hz hok
  have hs' : Src P j.size tx vx new.length news w := by rw [hjs]; exact hs
  have hlen : ∀ {rows : List AV} {vs : List Value}, (∀ a ∈ rows, szA a = te.size) → RL ρ I w rows vs → vs.length = rows.length * te.size := by
    intro rows
    induction rows with
    | nil => intro vs _ h; cases h; simp
    | cons a as ih =>
      intro vs hk h
      obtain ⟨ys, zs, rfl, h1, h2⟩ := RL_cons.1 h
      rw [List.length_append, R_len a ys h1, hk a (by simp), ih (fun b hb => hk b (by simp [hb])) h2, List.length_cons, Nat.add_mul, Nat.one_mul, Nat.add_comm]
  unfold appR at h
  split at h
  · rename_i full k l
    simp only [Option.some.injEq] at h
    subst h
    obtain ⟨hsz, ws, hr, hv⟩ := rel_vec.1 r
    cases hl : l.isEmpty with
    | true =>
      simp only [Eff.has, hl] at hh
      obtain ⟨hk, hf, hle, _, rfl, rfl⟩ := hh
      have hl0 : l = [] := by simpa using hl
      subst hl0
      have hle := leB_iff.1 hle
      cases hr
      have := app_vec (ty := ty) (ent := .grow te.size new []) c hn ht hj hjz hzs hb0 hv hf (by simp) hs' (by rw [hjb]; simpa using hle) rfl hnk (by simpa [Ent.cells] using hnr) (.inr rfl)
      rw [hjs] at this
      simpa using this
    | false =>
      cases hnw : new.isEmpty with
      | true =>
        simp only [Eff.has, hl, hnw] at hh
        obtain ⟨_, _, rfl, rfl⟩ := hh
        have hn0 : new = [] := by simpa using hnw
        subst hn0
        cases hnr
        exact app_same c ht hj hv hs' r
      | false =>
        simp only [Eff.has, hl, hnw] at hh
        obtain ⟨hk, hf, hle, _, rfl, rfl⟩ := hh
        simp only [beq_iff_eq] at hk
        subst hk
        have hle := leB_iff.1 hle
        have hne : new.length ≠ 0 := by
          intro h0
          rw [List.eq_nil_of_length_eq_zero h0] at hnw
          simp at hnw
        have := app_vec (ty := ty) (ent := .grow te.size (l ++ new) []) c hn ht hj hjz hzs hb0 hv hf (by rw [hlen hsz hr, hjs]) hs' (by rw [hjb]; exact hle) rfl (fun a ha => (List.mem_append.1 ha).elim (hsz a) (hnk a)) (RL_append hr hnr) (.inl hne)
        rw [hjs] at this
        exact this
  · rename_i id off k len
    split at h
    · rename_i k' l f hid
      simp only [Option.some.injEq] at h
      subst h
      obtain ⟨hc, hlen', hle, _, rfl, rfl⟩ := hh
      simp only [Bool.and_eq_true, beq_iff_eq, List.isEmpty_iff] at hc hlen'
      obtain ⟨⟨rfl, rfl, rfl⟩, rfl⟩ := hc
      subst hlen'
      have hle := leB_iff.1 hle
      have hev : ∀ a ∈ l, szA a = te.size := (c.grow id _ hid rfl).1
      have hszl : szL l = l.length * te.size := by
        have : ∀ l : List AV, (∀ a ∈ l, szA a = te.size) → szL l = l.length * te.size := by
          intro l
          induction l with
          | nil => intro _; simp [szL]
          | cons a as ih => intro h; rw [szL, h a (by simp), ih (fun b hb => h b (by simp [hb])), List.length_cons, Nat.add_mul, Nat.one_mul, Nat.add_comm]
        exact this l hev
      have := append_own (ty := ty) (e0 := .grow te.size l []) (ent := .grow te.size (l ++ new) []) c hn hid rfl ht hj hjz hzs hb0 (by rw [hjs]; exact rel_sl.1 r) (by rw [hjs]; exact hszl) hs' (by rw [hjb]; exact hle) rfl (fun a ha => (List.mem_append.1 ha).elim (hev a) (hnk a)) rfl ?_ (fun o ho => by obtain ⟨_, h, _⟩ := ho; simp [Ent.frz] at h)
      · rw [hjs] at this
        obtain ⟨v', w', ρ', k1, k2, k3, k4, k5, _⟩ := this
        exact ⟨v', w', ρ', k1, k2, k3, k4, k5⟩
      · intro cs hcs
        rcases hcs with hcs | ⟨h0, rfl⟩
        · exact RL_append hcs hnr
        · rw [show (Ent.grow te.size (l ++ new) []).cells = l ++ new from rfl, List.eq_nil_of_length_eq_zero h0]
          simpa using hnr
    · simp at h
  · rename_i full l
    simp only [Option.some.injEq] at h
    subst h
    obtain ⟨hl, hf, hle, _, rfl, rfl⟩ := hh
    have hl0 : l = [] := by simpa using hl
    subst hl0
    have hle := leB_iff.1 hle
    have hv : vecR I w full ([] : List UInt8).length [] vs := rel_vec8.1 r
    have := app_vec (ty := ty) (ent := .grow te.size new []) c hn ht hj hjz hzs hb0 hv hf (by simp) hs' (by rw [hjb]; simpa using hle) rfl hnk (by simpa [Ent.cells] using hnr) (.inr rfl)
    rw [hjs] at this
    simpa using this
  · simp at h
end

section
variable {P : Program} {G : Env P} {ρ : Rho} {I : Imm} {H : Heap} {w : World}

theorem isRes_get {H : Heap} {n : Nat} (h : isRes H n = true) : H[n]? = some .res := isRes_iff.1 h

theorem run_append_ints {t tx ts ty e : Nat} {k : IntKind} {j : TypeInfo} {zv : Value} (ht : P.underlying t = some (.slice e)) (hx : P.underlying tx = some (.int k)) (hs : P.underlying ts = some .string) (hj : P.info? e = some j) (hz : j.zero = some zv) (hzc : zv.cells = #[.int .u8 0])
    (hjs : j.size = 1) (hb0 : 0 < j.bytes) {n len cap : Nat} {base : Option Addr} (hle : (len + n) * j.bytes ≤ 140737488355328) :
    (Builtin.append_ #[t, tx] ty #[.slice base len cap, .int .i64 n]).run P w = (Builtin.append_ #[t, ts] ty #[.slice base len cap, .string ⟨(List.replicate n (0 : UInt8)).toArray⟩]).run P w := by
  have h63 : len + n ≤ (len + n) * j.bytes := Nat.le_mul_of_pos_right _ hb0
  have hw : IntKind.i64.wrap (n : Int) = n := wr64_of (by omega) (by omega)
  have hsz : (⟨(List.replicate n (0 : UInt8)).toArray⟩ : ByteArray).size = n := by simp [ByteArray.size]
  have hcells : ∀ (w' : World), (Builtin.firstCells j.size n (.string ⟨(List.replicate n (0 : UInt8)).toArray⟩)).run P w' = .ok (Builtin.zeroCells zv.cells n) w' := by
    intro w'
    have := firstCells_string (P := P) ⟨(List.replicate n (0 : UInt8)).toArray⟩ w'
    rw [hsz] at this
    rw [hjs, this]
    congr 1
    rw [hzc]
    apply Array.toList_inj.1
    have h2 : (Builtin.zeroCells #[.int .u8 0] n).toList = (List.replicate n [Value.int .u8 0]).flatten := made_list #[.int .u8 0] (by decide) n
    rw [h2]
    simp [byteCells]
  have hI : IntKind.i64.wrap (n : Int) = n := hw
  generalize (⟨(List.replicate n (0 : UInt8)).toArray⟩ : ByteArray) = s0 at *
  have hlo : ∀ w' : World, (Builtin.lenOf (.string s0)).run P w' = .ok n w' := fun w' => by simp [Builtin.lenOf, hsz]
  have hb1 : ¬ (281474976710656 < (n : Int) * (j.bytes : Int)) := by
    have h0 : n * j.bytes ≤ (len + n) * j.bytes := Nat.mul_le_mul_right _ (by omega)
    have : ((n * j.bytes : Nat) : Int) ≤ 140737488355328 := by omega
    rw [Int.natCast_mul] at this
    omega
  have hneg : ¬ ((n : Int) < 0) := by omega
  have hw0 : IntKind.i64.wrap 0 = 0 := by decide
  have hz0 : Builtin.zeroCells zv.cells 0 = #[] := by simp [Builtin.zeroCells]
  by_cases hc : len + n ≤ cap
  · by_cases h0 : n = 0
    · subst h0
      have hc' : len ≤ cap := by omega
      cases base <;> simp [hc', Builtin.append_, run_underlying ht, run_underlying hx, run_underlying hs, run_sizeOf hj, asInt, asIntOf, hw0, run_typeInfo hj, hlo, hcells, hz0] <;> (try (split <;> rfl))
    · have hnz : ¬ (n * j.size = 0) := by rw [hjs]; omega
      cases base <;> simp [Builtin.append_, run_underlying ht, run_underlying hx, run_underlying hs, run_sizeOf hj, asInt, asIntOf, hI, run_typeInfo hj, hb1, hneg, hlo, hc, hnz, hcells, zeroValue, hz, h0]
  · have hfit : Builtin.nextslicecap (len + n) cap * j.bytes ≤ 281474976710656 := growslice_fits (by omega) hle
    have h1 : ¬ (281474976710656 < Builtin.nextslicecap (len + n) cap * j.bytes) := by omega
    have h2 : ¬ (9223372036854775807 < (len : Int) + (n : Int)) := by omega
    by_cases h0 : n = 0
    · subst h0
      have hc' : ¬ len ≤ cap := by omega
      rw [Nat.add_zero] at h1
      have h2' : ¬ (9223372036854775807 < (len : Int)) := by omega
      cases base <;> simp [hc', h1, h2', Builtin.append_, run_underlying ht, run_underlying hx, run_underlying hs, run_sizeOf hj, asInt, asIntOf, hw0, run_typeInfo hj, hlo, hcells, hz0] <;> (try (split <;> rfl))
    · have hnz : ¬ (n * j.size = 0) := by rw [hjs]; omega
      cases base <;> simp [Builtin.append_, run_underlying ht, run_underlying hx, run_underlying hs, run_sizeOf hj, asInt, asIntOf, hI, run_typeInfo hj, hb1, hneg, hlo, hc, hnz, hcells, zeroValue, hz, h0, h1, h2]

theorem strT_spec : ∀ {n ts : Nat}, strT G n = some ts → ∃ ti, G.ty ts = some ti ∧ ti.kind = .string
  | 0, ts, h => by simp [strT] at h
  | n + 1, ts, h => by
    unfold strT at h
    split at h
    · rename_i ti hti
      split at h
      · rename_i hk
        simp only [Option.some.injEq] at h
        subst h
        exact ⟨ti, hti, hk⟩
      · exact strT_spec h
    · exact strT_spec h

theorem srcZ_spec {tix : TI} {s x : AV} {vs : Value} (rs : rel ρ I w s vs) {n : Int} {len : Nat} (h : srcZ G tix s x = some (n, len)) :
    (∃ k, tix.kind = .int k) ∧ x = .int .i64 n ∧ (∃ ts ti, G.ty ts = some ti ∧ ti.kind = .string) ∧ ∃ base cap, vs = .slice base len cap := by
  unfold srcZ at h
  split at h
  · rename_i k n' ts hk hts
    obtain ⟨ti, k1, k2⟩ := strT_spec hts
    split at h
    · rename_i full l
      simp only [Option.some.injEq, Prod.mk.injEq] at h
      obtain ⟨rfl, rfl⟩ := h
      obtain ⟨a, cap, rfl, _⟩ := rel_vec8.1 rs
      exact ⟨⟨k, hk⟩, rfl, ⟨ts, ti, k1, k2⟩, a, cap, rfl⟩
    · rename_i id off kk len'
      simp only [Option.some.injEq, Prod.mk.injEq] at h
      obtain ⟨rfl, rfl⟩ := h
      rcases rel_sl.1 rs with ⟨b, cap, _, rfl, _⟩ | ⟨rfl, a, rfl⟩
      · exact ⟨⟨k, hk⟩, rfl, ⟨ts, ti, k1, k2⟩, _, cap, rfl⟩
      · exact ⟨⟨k, hk⟩, rfl, ⟨ts, ti, k1, k2⟩, a, 0, rfl⟩
    · simp at h
  · simp at h

theorem aAppend_sound (c : Conc G.g ρ I H w) {t tx ty nid : Nat} {s x : AV} {vs vx : Value} (rs : rel ρ I w s vs) (rx : rel ρ I w x vx) {E : Eff} {v : AV} {u : List (Nat × Ent)} (h : aAppend G t tx H nid s x = some E) (hh : E.has v u) : AppOk P G.g ρ I H w t tx ty vs vx v u := by
  unfold aAppend at h
  split at h
  · rename_i ti tix hti htix
    obtain ⟨j, d, _, q2, _, _, q5, _⟩ := ty_ok hti
    split at h
    · rename_i e hk
      rw [hk] at q5
      obtain rfl := TK.of_slice q5
      split at h
      · rename_i te hte
        split at h
        · rename_i z hz
          split at h
          · split at h
            · rename_i p new hsrc
              split at h
              · rename_i E' hE
                simp only [Option.some.injEq] at h
                subst h
                obtain ⟨h1, h2, h3⟩ := hh
                simp only [Bool.and_eq_true, beq_iff_eq] at h1
                exact appB_sound c (isRes_get h1.1) q2 hte hz h1.2.1 h1.2.2 rs (srcB_sound c htix rx hsrc h2) hE h3
              · simp at h
            · split at h
              · rename_i n len hz8
                split at h
                · rename_i E' hE
                  simp only [Option.some.injEq] at h
                  subst h
                  obtain ⟨h1, h2, h3, h4⟩ := hh
                  simp only [Bool.and_eq_true, beq_iff_eq] at h1 h2
                  have h3 := leB_iff.1 h3
                  obtain ⟨⟨k, hkx⟩, rfl, ⟨ts, tis, g1, g2⟩, base, cap, rfl⟩ := srcZ_spec rs hz8
                  obtain ⟨js, ds, _, s2, _, _, s5, _⟩ := ty_ok g1
                  rw [g2] at s5
                  obtain rfl := TK.of_string s5
                  obtain ⟨jx, dx, _, x2, _, _, x5, _⟩ := ty_ok htix
                  rw [hkx] at x5
                  obtain rfl := TK.of_int x5
                  obtain ⟨je, zv, hj, hjs, hjb, hb0, hs0, hjz, hzs, _, hzr⟩ := el_info hte hz h1.2.1
                  have hzc : zv.cells = #[.int .u8 0] := by
                    apply Array.toList_inj.1
                    exact isZ8_spec h2.1 (hzr ρ I w)
                  obtain ⟨m, rfl⟩ : ∃ m : Nat, n = m := ⟨n.toNat, by have := nnB_iff.1 h2.2; omega⟩
                  rw [Int.toNat_natCast] at h3 hE
                  have hsrc := Src.ofString (P := P) w s2 ⟨(List.replicate m (0 : UInt8)).toArray⟩
                  have hsz : (⟨(List.replicate m (0 : UInt8)).toArray⟩ : ByteArray).size = (List.replicate m (0 : UInt8)).length := by simp [ByteArray.size]
                  have hbc : byteCells ⟨(List.replicate m (0 : UInt8)).toArray⟩ = v8 (List.replicate m 0) := by simp [byteCells, v8]
                  rw [hsz, hbc] at hsrc
                  obtain ⟨v', w', ρ', k1, k2⟩ := appB_sound (ty := ty) c (isRes_get h1.1) q2 hte hz h1.2.1 h1.2.2 rs hsrc hE h4
                  refine ⟨v', w', ρ', ?_, k2⟩
                  obtain rfl := rel_int.1 rx
                  rw [run_append_ints q2 x2 s2 hj hjz hzc (by rw [hjs]; exact h1.2.2) hb0 (by rw [hjb]; exact h3)]
                  exact k1
                · simp at h
              · simp at h
          · split at h
            · rename_i k p new hsrc
              split at h
              · rename_i E' hE
                simp only [Option.some.injEq] at h
                subst h
                obtain ⟨h1, h2, h3, h4⟩ := hh
                simp only [Bool.and_eq_true, beq_iff_eq] at h1
                obtain ⟨news, k1, k2, k3⟩ := srcR_sound c htix rx hsrc h2 h3
                rw [h1.2.2] at k2 k3
                exact appR_sound c (isRes_get h1.1) q2 hte hz h1.2.1 rs k1 k2 k3 hE h4
              · simp at h
            · simp at h
        · simp at h
      · simp at h
    · simp at h
  · simp at h

theorem aMake_sound (c : Conc G.g ρ I H w) {t nid : Nat} {l k : AV} {vl vk : Value} (rl : rel ρ I w l vl) (rk : rel ρ I w k vk) {E : Eff} {v : AV} {u : List (Nat × Ent)} (h : aMake G t H nid l k = some E) (hh : E.has v u) :
    ∃ v' w' ρ', (Instr.makeSlice t vl vk).run P w = .ok v' w' ∧ Good ρ I H w ρ' I (updH H u) w' ∧ Conc G.g ρ' I (updH H u) w' ∧ Mono ρ I w ρ' I w' ∧ rel ρ' I w' v v' := by
  unfold aMake at h
  split at h
  · rename_i ti k1 n k2 m hti hl hm
    obtain ⟨j, d, _, q2, _, _, q5, _⟩ := ty_ok hti
    split at h
    · rename_i e hk
      rw [hk] at q5
      obtain rfl := TK.of_slice q5
      split at h
      · rename_i te hte
        split at h
        · rename_i z hz
          simp only [Option.some.injEq] at h
          subst h
          obtain ⟨h1, h2, h3, h4, hh⟩ := hh
          simp only [Bool.and_eq_true, beq_iff_eq] at h1 h3
          subst h3
          have h2 := nnB_iff.1 h2
          have h4 := leB_iff.1 h4
          obtain ⟨j, zv, hj, hjs, hjb, hb0, hs0, hjz, hzs, hzr, hzR⟩ := el_info hte hz h1.2
          obtain rfl := rel_toI hl rl
          obtain rfl := rel_toI hm rk
          have hn : (n.toNat : Int) = n := Int.toNat_of_nonneg h2
          have hle : n.toNat ≤ n.toNat * te.bytes := Nat.le_mul_of_pos_right _ (by omega)
          have hbytes : (j.bytes : Int) * n ≤ 281474976710656 := by
            rw [← hn, hjb, ← Int.natCast_mul, Nat.mul_comm]; omega
          have hrun := run_make (P := P) w t e j zv q2 hj hjz k1 k2 n n h2 (Int.le_refl _) hbytes (by omega)
          have hml : (madeCells zv.cells (n.toNat * j.size)) = ((List.replicate n.toNat zv.cells.toList).flatten ++ []).toArray := by
            apply Array.toList_inj.1
            rw [List.append_nil, ← hzs]
            exact made_list zv.cells (by omega) n.toNat
          rw [hml] at hrun
          have hlen : ((List.replicate n.toNat zv.cells.toList).flatten ++ []).length = n.toNat * j.size := by simp [hzs]
          have hnew := alloc_new w (.cells ((List.replicate n.toNat zv.cells.toList).flatten ++ []).toArray e)
          have fin : ∀ ent : Ent, ent.grows = true → ent.even → RL ρ I w ent.cells (List.replicate n.toNat zv.cells.toList).flatten → ∃ v' w' ρ', (Instr.makeSlice t (.int k1 n) (.int k2 n)).run P w = .ok v' w' ∧ Good ρ I H w ρ' I (updH H [(nid, ent)]) w' ∧ Conc G.g ρ' I (updH H [(nid, ent)]) w' ∧ Mono ρ I w ρ' I w' ∧ rel ρ' I w' (.sl nid 0 j.size n.toNat) v' := by
            intro ent he hev hr
            obtain ⟨g1, g2, g3⟩ := new_grow (w' := w.alloc (.cells ((List.replicate n.toNat zv.cells.toList).flatten ++ []).toArray e)) c (isRes_get h1.1) he hev (by simp) (fun b hb => alloc_old w _ hb) hnew hr ⟨Nat.le_refl _, fun o _ => by simp⟩ rfl rfl rfl
            exact ⟨_, _, _, hrun, g1, g2, g3, new_sl (by simp) hnew (Nat.le_refl _) (by rw [hlen]; exact Nat.le_refl _)⟩
          split at hh
          · rename_i hku
            obtain ⟨hs1, _, rfl, rfl⟩ := hh
            simp only [Bool.and_eq_true, beq_iff_eq] at hs1
            obtain ⟨hs1, hs2⟩ := hs1
            have hz8 := isZ8_spec hs2 (hzR ρ I w)
            have := fin (.grow8 (List.replicate n.toNat 0) []) rfl trivial (by rw [hz8, RL_u8s]; exact RL_seg8)
            rw [hjs, hs1] at this
            exact this
          · obtain ⟨_, rfl, rfl⟩ := hh
            have := fin (.grow te.size (List.replicate n.toNat z) []) rfl (fun a ha => by rw [(List.mem_replicate.1 ha).2]; exact (elOk_spec h1.2).2.1) (RL_replicate (hzR ρ I w) n.toNat)
            rw [hjs] at this
            exact this
        · simp at h
      · simp at h
    · simp at h
  · simp at h
end

section
variable {P : Program} {G : Env P} {ρ : Rho} {I : Imm} {H : Heap} {w : World}

theorem run_buildSlice0 {t e : Nat} {parts : Array (Nat × Value)} {te : TI} (ht : P.underlying t = some (.slice e)) (hte : G.ty e = some te) (hp : parts.toList = []) :
    (Instr.buildSlice t 0 parts).run P w = .ok (.slice (some ⟨w.heap.size, 0, none⟩) 0 0) (w.alloc (.cells #[] e)) := by
  have : parts = #[] := Array.toList_eq_nil_iff.1 hp
  subst this
  have h0 : Array.range 0 = #[] := rfl
  simp [Instr.buildSlice, run_underlying ht, run_sizeOfE hte, Instr.fill, newRow, h0]

theorem afill_nil0 {place : Nat → Option (Nat × Nat)} {cells : List AV} : afill place cells [] = some (true, cells) := rfl

theorem aBuildS_sound (c : Conc G.g ρ I H w) {t len nid : Nat} {parts : List (Nat × AV)} {vparts : Array (Nat × Value)} (hi : parts.map (·.1) = vparts.toList.map (·.1)) (hr : RV ρ I w (parts.map (·.2)) (vparts.toList.map (·.2)))
    {E : Eff} {v : AV} {u : List (Nat × Ent)} (h : aBuildS G t len H nid parts = some E) (hh : E.has v u) :
    ∃ v' w' ρ', (Instr.buildSlice t len vparts).run P w = .ok v' w' ∧ Good ρ I H w ρ' I (updH H u) w' ∧ Conc G.g ρ' I (updH H u) w' ∧ Mono ρ I w ρ' I w' ∧ rel ρ' I w' v v' := by
  have hvp0 : parts = [] → vparts.toList = [] := by
    rintro rfl
    simpa using hi.symm
  unfold aBuildS at h
  split at h
  · rename_i ti hti
    obtain ⟨jt, d, _, q2, _, _, q5, _⟩ := ty_ok hti
    split at h
    · rename_i e hk
      rw [hk] at q5
      obtain rfl := TK.of_slice q5
      split at h
      · rename_i te hte
        split at h
        · rename_i z hz
          have zero : ∀ a : AV, len = 0 → parts.isEmpty = true → (∀ x, rel ρ I (w.alloc (.cells #[] e)) a (.slice x 0 0)) → ∃ v' w' ρ', (Instr.buildSlice t len vparts).run P w = .ok v' w' ∧ Good ρ I H w ρ' I (updH H []) w' ∧ Conc G.g ρ' I (updH H []) w' ∧ Mono ρ I w ρ' I w' ∧ rel ρ' I w' a v' := by
            intro a hl hpe ha
            have hrun := run_buildSlice0 (w := w) q2 hte (hvp0 (by simpa using hpe))
            obtain ⟨g1, g2, g3⟩ := grow_conc (w' := w.alloc (.cells #[] e)) c (by simp) (fun b hb => alloc_old w _ hb) rfl rfl rfl
            exact ⟨_, _, _, by rw [hl]; exact hrun, g1, g2, g3, ha _⟩
          -- what a fill comes to
          have full : ∀ (cells l : List AV) (cc : Bool) (ent : Ent), elOk te z = true → len ≠ 0 → leB (len * te.size) 16777216 = true → isRes H nid = true →
              (∀ zv : Value, R ρ I w z zv.cells.toList → RL ρ I w cells (List.replicate len zv.cells.toList).flatten) → afill (aplaceE te.size) cells parts = some (cc, l) → cc = true → ent.grows = true → ent.even → (∀ xs, RL ρ I w l xs → RL ρ I w ent.cells xs) → szL l = len * te.size →
              ∃ v' w' ρ', (Instr.buildSlice t len vparts).run P w = .ok v' w' ∧ Good ρ I H w ρ' I (updH H [(nid, ent)]) w' ∧ Conc G.g ρ' I (updH H [(nid, ent)]) w' ∧ Mono ρ I w ρ' I w' ∧ rel ρ' I w' (.sl nid 0 te.size len) v' := by
            intro cells l cc ent hok hl0 hle hres hzero hfill hcc he hev hec hsz
            obtain ⟨j, zv, hj, hjs, hjb, hb0, hs0, hjz, hzs, hzr, hzR⟩ := el_info hte hz hok
            have hle := leB_iff.1 hle
            have hz0 : RL ρ I w cells ((Array.range (len * j.size)).map (zv.cells[· % zv.cells.size]!)).toList := by
              rw [← hzs, made_list zv.cells (by omega) len]
              exact hzero zv (hzR ρ I w)
            obtain ⟨out, o1, o2⟩ := afill_sound (place' := fun i => some (i * j.size, j.size)) hi hr (fun p _ q hq => by simpa [aplaceE, hjs] using hq) hz0 hfill hcc
            have hrun := run_buildSlice (P := P) w t e len vparts out j zv q2 hj hjz (by rw [hjs]; omega) (by rw [Nat.mul_eq_zero]; omega) o1
            have hout : out = (out.toList ++ []).toArray := by simp
            rw [hout] at hrun
            have hnew := alloc_new w (.cells (out.toList ++ []).toArray e)
            have hlen : (out.toList ++ []).length = len * te.size := by rw [List.append_nil, RL_len _ _ o2, hsz]
            obtain ⟨g1, g2, g3⟩ := new_grow (w' := w.alloc (.cells (out.toList ++ []).toArray e)) c (isRes_get hres) he hev (by simp) (fun b hb => alloc_old w _ hb) hnew (hec _ o2) ⟨Nat.le_refl _, fun o _ => by simp⟩ rfl rfl rfl
            exact ⟨_, _, _, hrun, g1, g2, g3, new_sl (by simp) hnew (Nat.le_refl _) (by rw [hlen]; exact Nat.le_refl _)⟩
          split at h
          · cases hl : len == 0 with
            | true =>
              simp only [hl, cond_true, Option.some.injEq] at h
              subst h
              obtain ⟨hpe, rfl, rfl⟩ := hh
              exact zero _ (by simpa using hl) hpe fun x => rel_vec8.2 ⟨x, 0, rfl, Nat.le_refl _, fun _ => rfl, .inl rfl⟩
            | false =>
              simp only [hl, cond_false] at h
              split at h
              · rename_i cc m l hfill
                simp only [Option.some.injEq] at h
                subst h
                obtain ⟨h1, h2, rfl, rfl⟩ := hh
                simp only [Bool.and_eq_true, beq_iff_eq] at h1
                obtain ⟨⟨hres, hok, hs1, hz8⟩, rfl, hle⟩ := h1
                have hne : m ≠ 0 := by simpa using hl
                have hleB : leB (m * te.size) 16777216 = true := by rw [hs1, Nat.mul_one]; exact hle
                -- the row's length
                obtain ⟨j, zv, hj, hjs, hjb, hb0, hs0, hjz, hzs, hzr, hzR⟩ := el_info hte hz hok
                have hlm : l.length = m := by
                  have hz0 : RL ρ I w [.b8 m (List.replicate m 0)] ((Array.range (m * j.size)).map (zv.cells[· % zv.cells.size]!)).toList := by
                    rw [← hzs, made_list zv.cells (by omega) m, isZ8_spec hz8 (hzR ρ I w), RL_u8s]
                    exact ⟨_, [], by simp, ⟨rfl, by simp⟩, rfl⟩
                  obtain ⟨out, o1, o2⟩ := afill_sound (place' := fun i => some (i * j.size, j.size)) hi hr (fun p _ q hq => by simpa [aplaceE, hjs] using hq) hz0 hfill h2
                  obtain ⟨ys, zs, _, ⟨_, h6⟩, _⟩ := RL_cons.1 o2
                  exact h6
                have := full [.b8 m (List.replicate m 0)] [.b8 m l] cc (.grow8 l []) hok hne hleB hres (fun zv hzv => by
                  rw [isZ8_spec hz8 hzv, RL_u8s]
                  exact ⟨_, [], by simp, ⟨rfl, by simp⟩, rfl⟩) hfill h2 rfl trivial (fun xs h => by simpa [Ent.cells, hlm] using h) (by simp [szL, szA, hs1])
                rw [hs1] at this
                exact this
              · rename_i cc x hfill
                simp only [Option.some.injEq] at h
                subst h
                obtain ⟨h1, h2, rfl, rfl⟩ := hh
                simp only [Bool.and_eq_true, beq_iff_eq] at h1
                obtain ⟨⟨hres, hok, hs1, hz8⟩, rfl⟩ := h1
                have := full [.b8 1 (List.replicate 1 0)] [.u8 x] cc (.grow8 [x] []) hok (by omega) (by rw [hs1]; rfl) hres (fun zv hzv => by
                  rw [isZ8_spec hz8 hzv, RL_u8s]
                  exact ⟨_, [], by simp, ⟨rfl, by simp⟩, rfl⟩) hfill h2 rfl trivial (fun xs h => by
                    obtain ⟨ys, zs, rfl, h3, h4⟩ := RL_cons.1 h
                    cases h3
                    cases h4
                    exact ⟨_, [], rfl, ⟨rfl, rfl⟩, rfl⟩) (by simp [szL, szA, hs1])
                rw [hs1] at this
                exact this
              · simp at h
          · cases hl : len == 0 with
            | true =>
              simp only [hl, cond_true, Option.some.injEq] at h
              subst h
              obtain ⟨hpe, rfl, rfl⟩ := hh
              exact zero _ (by simpa using hl) hpe fun x => rel_vec.2 ⟨by simp, [], by simp [RL], x, 0, rfl, Nat.le_refl _, fun _ => rfl, .inl rfl⟩
            | false =>
              simp only [hl, cond_false] at h
              split at h
              · rename_i cc rows hfill
                simp only [Option.some.injEq] at h
                subst h
                obtain ⟨h1, h2, h3, rfl, rfl⟩ := hh
                simp only [Bool.and_eq_true, beq_iff_eq] at h1
                obtain ⟨⟨hres, hok⟩, rfl, hle⟩ := h1
                have hev : ∀ a ∈ rows, szA a = te.size := fun a ha => by simpa using List.all_eq_true.1 h2 a ha
                have hszl : ∀ l : List AV, (∀ a ∈ l, szA a = te.size) → szL l = l.length * te.size := by
                  intro l
                  induction l with
                  | nil => intro _; simp [szL]
                  | cons a as ih => intro h; rw [szL, h a (by simp), ih (fun b hb => h b (by simp [hb])), List.length_cons, Nat.add_mul, Nat.one_mul, Nat.add_comm]
                exact full (List.replicate rows.length z) rows cc (.grow te.size rows []) hok (by simpa using hl) hle hres (fun zv hzv => RL_replicate hzv _) hfill h3 rfl hev (fun xs h => h) (hszl rows hev)
              · simp at h
        · simp at h
      · simp at h
    · simp at h
  · simp at h
end

section
variable {P : Program} {G : Env P} {ρ : Rho} {I : Imm} {H : Heap} {w : World}

theorem srcB_take (c : Conc G.g ρ I H w) {tix : TI} {x : AV} {vx : Value} (r : rel ρ I w x vx) {p : Bool} {l : List UInt8} (h : srcB tix H x = some (p, l)) (hp : p = true) :
    (Builtin.lenOf vx).run P w = .ok l.length w ∧ ∀ m, m ≤ l.length → (Builtin.firstCells 1 m vx).run P w = .ok (v8 (l.take m)).toArray w := by
  unfold srcB at h
  split at h
  · rename_i s
    split at h
    · simp only [Option.some.injEq, Prod.mk.injEq] at h
      obtain ⟨_, rfl⟩ := h
      obtain rfl := rel_str.1 r
      refine ⟨by simp [Builtin.lenOf, ByteArray.size], fun m hm => ?_⟩
      simp only [Builtin.firstCells, extract_mk]
      simp [v8]
    · simp at h
  · split at h
    · obtain ⟨a, cap, rfl, hc⟩ := content8_sound c h hp r
      refine ⟨by simp [Builtin.lenOf], fun m hm => ?_⟩
      have hlt : (v8 (l.take m)).length = m * 1 := by rw [length_v8, List.length_take, Nat.min_eq_left hm, Nat.mul_one]
      rcases hc with rfl | ⟨b, off, rfl, hc⟩
      · have hm0 : m = 0 := by simpa using hm
        subst hm0
        cases a with
        | none => exact run_firstCells_none w 1 0 0 cap
        | some a => exact run_firstCells_some w 1 0 a 0 cap [] (by simp) (fun j u hu => by simp at hu)
      · refine run_firstCells_some w 1 m ⟨b, off, none⟩ l.length cap _ hlt fun i y hy => ?_
        rw [addr_add]
        refine hc i y ?_
        rw [← v8_take, List.getElem?_take] at hy
        split at hy
        · exact hy
        · simp at hy
    · simp at h

theorem run_copy8 {t tx ty e : Nat} {te : TI} (ht : P.underlying t = some (.slice e)) (hte : G.ty e = some te) (h1 : te.size = 1) {b off len cap : Nat} {vx : Value} {n : Nat} {l : List UInt8} (hn : (Builtin.lenOf vx).run P w = .ok n w)
    (hc : (Builtin.firstCells 1 (min n len) vx).run P w = .ok (v8 l).toArray w) (hcell : ∀ j, j < l.length → (w.cell? ⟨b, off + j, none⟩).isSome = true) (hfr : ∀ j, j < l.length → w.frozen? ⟨b, off + j, none⟩ = false) :
    (Builtin.copy_ #[t, tx] ty #[.slice (some ⟨b, off, none⟩) len cap, vx]).run P w = .ok (.int .i64 (min n len : Nat)) (w.setCells b off (v8 l)) := by
  have one : ∀ u ∈ v8 l, u.oneCell' = true := fun u hu => by
    simp only [v8, List.mem_map] at hu
    obtain ⟨y, _, rfl⟩ := hu
    rfl
  have hst := run_storeCells_cells (P := P) b off (v8 l) 0 w (fun j hj => by rw [length_v8] at hj; exact hcell j hj) (fun j hj => by rw [length_v8] at hj; exact hfr j hj) one
  rw [Nat.add_zero] at hst
  have hmin : Nat.min n len = min n len := rfl
  simp [Builtin.copy_, run_underlying ht, hn, run_sizeOfE hte, h1, hmin, hc, hst, goInt]

theorem run_copy0 {t tx ty e : Nat} {te : TI} (ht : P.underlying t = some (.slice e)) (hte : G.ty e = some te) (h1 : te.size = 1) {a : Option Addr} {vx : Value} {n : Nat} (hn : (Builtin.lenOf vx).run P w = .ok n w)
    (hc : (Builtin.firstCells 1 0 vx).run P w = .ok #[] w) : (Builtin.copy_ #[t, tx] ty #[.slice a 0 0, vx]).run P w = .ok (.int .i64 (0 : Nat)) w := by
  have hmin : Nat.min n 0 = 0 := Nat.min_zero n
  cases a with
  | none => simp [Builtin.copy_, run_underlying ht, hn, run_sizeOfE hte, h1, hmin, hc, goInt]
  | some a => simp [Builtin.copy_, run_underlying ht, hn, run_sizeOfE hte, h1, hmin, hc, goInt, storeCells]

theorem aCopy_sound (c : Conc G.g ρ I H w) {t tx ty : Nat} {d x : AV} {vd vx : Value} (rd : rel ρ I w d vd) (rx : rel ρ I w x vx) {E : Eff} {v : AV} {u : List (Nat × Ent)} (h : aCopy G t tx H d x = some E) (hh : E.has v u) :
    ∃ v' w' ρ', (Builtin.copy_ #[t, tx] ty #[vd, vx]).run P w = .ok v' w' ∧ Good ρ I H w ρ' I (updH H u) w' ∧ Conc G.g ρ' I (updH H u) w' ∧ Mono ρ I w ρ' I w' ∧ rel ρ' I w' v v' := by
  unfold aCopy at h
  split at h
  · rename_i ti tix hti htix
    obtain ⟨jt, dd, _, q2, _, _, q5, _⟩ := ty_ok hti
    split at h
    · rename_i e hk
      rw [hk] at q5
      obtain rfl := TK.of_slice q5
      split at h
      · rename_i te hte
        split at h
        · rename_i p new hsrc
          split at h
          · rename_i id off k len
            split at h
            · rename_i l f hid
              simp only [Option.some.injEq] at h
              subst h
              obtain ⟨h1, h2, h3, _, rfl, rfl⟩ := hh
              simp only [Bool.and_eq_true, beq_iff_eq, List.isEmpty_iff] at h1
              obtain ⟨hs1, rfl, rfl⟩ := h1
              have h3 := leB_iff.1 h3
              obtain ⟨s1, s2⟩ := srcB_take (P := P) c rx hsrc h2
              rcases rel_sl.1 rd with ⟨b, cap, g1, rfl, g2, g3, g4⟩ | ⟨rfl, a, rfl⟩
              · obtain ⟨_, hgr⟩ := c.grow id _ hid rfl
                rcases hgr with ⟨w1, _⟩ | ⟨b', el, fr, us, rest, w1, w2, w3, w4⟩
                · rw [w1] at g1; simp at g1
                rw [w1] at g1
                simp only [Option.some.injEq] at g1
                subst g1
                obtain ⟨ys, zs, rfl, ⟨rfl, _⟩, hz⟩ := RL_cons.1 w3
                cases hz
                rw [List.append_nil] at w2 w4
                have hmn : min new.length len ≤ new.length := Nat.min_le_left _ _
                have hlt : (new.take (min new.length len)).length = min new.length len := by rw [List.length_take]; omega
                have hall : (v8 l ++ rest).length = l.length + rest.length := by simp [length_v8]
                have hrun := run_copy8 (P := P) (ty := ty) (tx := tx) (cap := cap) q2 hte hs1 s1 (s2 _ hmn) (fun j hj => by have hj' := hlt ▸ hj; rw [cell_of_heap w2, List.getElem?_eq_getElem (show off + j < (v8 l ++ rest).length by rw [hall]; omega)]; rfl)
                  (fun j hj => by
                    have := w4.2 (off + j) (by rw [hlt] at hj; rw [hall]; omega)
                    unfold World.frozen?
                    rw [w2]
                    simpa using this)
                rw [setCells_rewr _ off _ w w2 (by rw [length_v8, hlt, hall]; omega)] at hrun
                have hnew : spliceV (v8 l ++ rest) off (v8 (new.take (min new.length len))) = v8 (l.take off ++ (new.take len ++ l.drop (off + min new.length len))) ++ rest := by
                  rw [spliceV_left (by rw [length_v8, length_v8, hlt]; omega)]
                  congr 1
                  unfold spliceV
                  rw [length_v8, hlt, v8_take, v8_drop, v8_append, v8_append]
                  have eB : new.take (min new.length len) = new.take len := by
                    rcases Nat.le_total new.length len with hc | hc
                    · rw [Nat.min_eq_left hc, List.take_of_length_le (Nat.le_refl _), List.take_of_length_le hc]
                    · rw [Nat.min_eq_right hc]
                  rw [eB]
                have hl' : (l.take off ++ (new.take len ++ l.drop (off + min new.length len))).length = l.length := by
                  simp only [List.length_append, List.length_take, List.length_drop]
                  omega
                have hlenV : (spliceV (v8 l ++ rest) off (v8 (new.take (min new.length len)))).length = (v8 l ++ rest).length := length_spliceV (by rw [length_v8, hlt, hall]; omega)
                have hfz : ∀ o, inFrz (Ent.grow8 l []).frz o → (spliceV (v8 l ++ rest) off (v8 (new.take (min new.length len))))[o]? = (v8 l ++ rest)[o]? := fun o ho => by obtain ⟨_, h, _⟩ := ho; simp [Ent.frz] at h
                have gw := write_good (I := I) (e' := .grow8 (l.take off ++ (new.take len ++ l.drop (off + min new.length len))) []) hid rfl w1 w2 hlenV hfz rfl (fun _ => rfl)
                obtain ⟨cw, mw⟩ := write_conc (e' := .grow8 (l.take off ++ (new.take len ++ l.drop (off + min new.length len))) []) c hid rfl w1 w2 hlenV hfz rfl (fun _ => rfl) rfl w4 (fun cs' f h => by simp at h)
                  (fun _ => ⟨trivial, _, rest, hnew, by rw [Ent.grow8_cells]; exact RL_seg8⟩)
                exact ⟨_, _, _, hrun, gw, cw, mw, rel_int.2 rfl⟩
              · have hm : (Builtin.firstCells 1 0 vx).run P w = .ok #[] w := by simpa [v8] using s2 0 (Nat.zero_le _)
                have hrun := run_copy0 (P := P) (ty := ty) (tx := tx) (a := a) q2 hte hs1 s1 hm
                have hsame : Ent.grow8 (l.take off ++ (new.take 0 ++ l.drop (off + min new.length 0))) [] = .grow8 l [] := by simp
                have hu : updH H [(id, Ent.grow8 (l.take off ++ (new.take 0 ++ l.drop (off + min new.length 0))) [])] = H := by
                  rw [hsame]
                  show H.set id _ = H
                  apply List.ext_getElem?
                  intro i
                  rw [List.getElem?_set]
                  split
                  · rename_i e; subst e; split
                    · exact hid.symm
                    · rename_i hc; simp; omega
                  · rfl
                rw [hu]
                exact ⟨_, _, _, hrun, Good.refl _ _ _ _, c, Mono.refl', rel_int.2 (by simp)⟩
            · rename_i cs f hid
              split at h
              · rename_i m l hm
                simp only [Option.some.injEq] at h
                subst h
                obtain ⟨h1, h2, _, rfl, rfl⟩ := hh
                simp only [Bool.and_eq_true, beq_iff_eq, List.isEmpty_iff, bne_iff_ne, ne_eq] at h1
                obtain ⟨⟨hs1, rfl, rfl⟩, ⟨rfl, hne⟩, h3⟩ := h1
                have h3 := leB_iff.1 h3
                obtain ⟨s1, s2⟩ := srcB_take (P := P) c rx hsrc h2
                rcases rel_sl.1 rd with ⟨b, cap, g1, rfl, g2, g3, g4⟩ | ⟨rfl, a, rfl⟩
                · obtain ⟨b', el, fr, us, w1, w2, w3, w4⟩ := c.blk id cs [] hid
                  rw [w1] at g1
                  simp only [Option.some.injEq] at g1
                  subst g1
                  have hus := RL_len _ _ w3
                  have hseg := RL_take _ _ m (RL_drop _ _ off w3)
                  rw [hm] at hseg
                  obtain ⟨ys, zs, e0, ⟨rfl, hlm⟩, hz⟩ := RL_cons.1 hseg
                  cases hz
                  rw [List.append_nil] at e0
                  have hmn : min new.length m ≤ new.length := Nat.min_le_left _ _
                  have hlt : (new.take (min new.length m)).length = min new.length m := by rw [List.length_take]; omega
                  have w2' : w.heap[b']? = some (.cells us.toArray el fr) := w2
                  have hrun := run_copy8 (P := P) (ty := ty) (tx := tx) (cap := cap) q2 hte hs1 s1 (s2 _ hmn) (fun j hj => by have hj' := hlt ▸ hj; rw [cell_of_heap w2', List.getElem?_eq_getElem (show off + j < us.length by omega)]; rfl)
                    (fun j hj => by
                      have := w4.2 (off + j) (by rw [hlt] at hj; omega)
                      unfold World.frozen?
                      rw [w2']
                      simpa using this)
                  rw [setCells_rewr _ off _ w w2' (by rw [length_v8, hlt]; omega)] at hrun
                  have hset := RL_set cs us off (.b8 m (new.take m ++ l.drop (min new.length m))) (v8 (new.take m ++ l.drop (min new.length m))) w3 ⟨rfl, by simp only [List.length_append, List.length_take, List.length_drop]; omega⟩ (by simpa [szA] using h3) (by simp [szA]; omega)
                  have hnl : (v8 (new.take m ++ l.drop (min new.length m))).length = m := by
                    rw [length_v8]
                    simp only [List.length_append, List.length_take, List.length_drop]
                    omega
                  have hsp : spliceV us off (v8 (new.take m ++ l.drop (min new.length m))) = spliceV us off (v8 (new.take (min new.length m))) := by
                    have hl2 : v8 l = (us.drop off).take m := e0.symm
                    unfold spliceV
                    rw [hnl, length_v8, hlt, ← v8_append, ← v8_drop, hl2, List.append_assoc]
                    congr 1
                    rw [List.drop_take, List.drop_drop]
                    have e1 : new.take m = new.take (min new.length m) := by
                      rcases Nat.le_total new.length m with hc | hc
                      · rw [Nat.min_eq_left hc, List.take_of_length_le (Nat.le_refl _), List.take_of_length_le hc]
                      · rw [Nat.min_eq_right hc]
                    rw [e1]
                    congr 1
                    have e2 : us.drop (off + m) = (us.drop (off + min new.length m)).drop (m - min new.length m) := by rw [List.drop_drop]; congr 1; omega
                    rw [e2, List.take_append_drop]
                  rw [← hsp] at hrun
                  have hlenV : (spliceV us off (v8 (new.take m ++ l.drop (min new.length m)))).length = us.length := length_spliceV (by rw [hnl]; omega)
                  have hfz : ∀ o, inFrz (Ent.blk cs []).frz o → (spliceV us off (v8 (new.take m ++ l.drop (min new.length m))))[o]? = us[o]? := fun o ho => by obtain ⟨_, h, _⟩ := ho; simp [Ent.frz] at h
                  have gw := write_good (I := I) (e' := .blk (setL cs off (.b8 m (new.take m ++ l.drop (min new.length m)))) []) hid rfl w1 w2' hlenV hfz rfl (fun h => by simp [Ent.grows] at h)
                  obtain ⟨cw, mw⟩ := write_conc (e' := .blk (setL cs off (.b8 m (new.take m ++ l.drop (min new.length m)))) []) c hid rfl w1 w2' hlenV hfz rfl (fun h => by simp [Ent.grows] at h) rfl w4
                    (fun cs' f h => by simp only [Ent.blk.injEq] at h; obtain ⟨rfl, _⟩ := h; exact hset) (fun h => by simp [Ent.grows] at h)
                  exact ⟨_, _, _, hrun, gw, cw, mw, rel_int.2 rfl⟩
                · exact absurd rfl hne
              · simp at h
            · simp at h
          · simp at h
        · simp at h
      · simp at h
    · simp at h
  · simp at h

/-- From a run to an effect. -/
theorem EffOk.of_val {o : Oper} {e : Operand → Value} {s : Sem Value} (he : ∀ (x : Value) (w' : World), s.run P w = .ok x w' → (execOp e o).run P w = .ok (.value x) w') {v : AV} {u : List (Nat × Ent)}
    (h : ∃ v' w' ρ', s.run P w = .ok v' w' ∧ Good ρ I H w ρ' I (updH H u) w' ∧ Conc G.g ρ' I (updH H u) w' ∧ Mono ρ I w ρ' I w' ∧ rel ρ' I w' v v') : EffOk G ρ I H w ((execOp e o).run P w) v u := by
  obtain ⟨v', w', ρ', h1, h2, h3, h4, h5⟩ := h
  exact ⟨v', w', .inl (he _ _ h1), ρ', I, h2, h3, h4, h5⟩

/-- A block that is owned gets the mark of bytes that a string shares, behind its cells. -/
theorem mark_own {g : Nat → Option (List AV)} (c : Conc g ρ I H w) {id b : Nat} {e : Ent} (hid : H[id]? = some e) (hl : e.live = true) (hf : e.frz = []) (hb : ρ id = some (some b))
    {cells : Array Value} {el : TypeId} {fr fr' : Nat × Nat} (hw : w.heap[b]? = some (.cells cells el fr)) (hcl : clear fr cells.size → clear fr' cells.size) :
    Good ρ I H w ρ I H (rewr w b (.cells cells el fr')) ∧ Conc g ρ I H (rewr w b (.cells cells el fr')) ∧ Mono ρ I w ρ I (rewr w b (.cells cells el fr')) := by
  have hlt : b < w.heap.size := (Array.getElem?_eq_some_iff.1 hw).1
  have hmut : ∀ o, Mut ρ H b o := fun o => ⟨id, e, hid, hl, hb, by rw [hf]; rintro ⟨r, hr, _⟩; simp at hr⟩
  have hcell : ∀ b' o, (rewr w b (.cells cells el fr')).cell? ⟨b', o, none⟩ = w.cell? ⟨b', o, none⟩ := by
    intro b' o
    simp only [World.cell?]
    rw [heap_rewr hlt]
    by_cases hbb : b' = b
    · subst hbb; rw [if_pos rfl, hw]
    · rw [if_neg hbb]
  have hbs : ∀ b', bsz (rewr w b (.cells cells el fr')) b' = bsz w b' := by
    intro b'
    unfold bsz
    rw [heap_rewr hlt]
    by_cases hbb : b' = b
    · subst hbb; rw [if_pos rfl, hw]
    · rw [if_neg hbb]
  have gd : Good ρ I H w ρ I H (rewr w b (.cells cells el fr')) := ⟨fun _ _ h => h, fun _ _ _ h => h, Nat.le_refl _, fun _ _ h => h, fun _ _ _ h => .inl h, rfl, rfl, rfl, by simp [rewr], fun b' o _ _ => hcell b' o,
    fun b' _ hm => by
      rw [heap_rewr hlt]
      by_cases hbb : b' = b
      · subst hbb; exact absurd (hmut 0) (hm 0)
      · rw [if_neg hbb], fun b' _ => hbs b', fun _ _ _ h => h, fun _ _ h => h⟩
  have m := c.mono gd (fun _ _ h => h)
  have hget : ∀ (b1 : Nat) (cs : Array Value) (el1 : TypeId) (fr1 : Nat × Nat), w.heap[b1]? = some (Obj.cells cs el1 fr1) → clear fr1 cs.size → ∃ el2 fr2, (rewr w b (.cells cells el fr')).heap[b1]? = some (Obj.cells cs el2 fr2) ∧ clear fr2 cs.size := by
    intro b1 cs el1 fr1 h1 h2
    rw [heap_rewr hlt]
    by_cases hbb : b1 = b
    · subst hbb
      rw [hw] at h1
      simp only [Option.some.injEq, Obj.cells.injEq] at h1
      obtain ⟨rfl, rfl, rfl⟩ := h1
      exact ⟨_, _, by rw [if_pos rfl], hcl h2⟩
    · exact ⟨el1, fr1, by rw [if_neg hbb]; exact h1, h2⟩
  refine ⟨gd, ⟨c.dom, c.res, fun i x hx => by simpa [rewr] using c.blt i x hx, c.inj, ?_, ?_, ?_, ?_⟩, m⟩
  · intro i cs f h
    obtain ⟨b1, el1, fr1, us, k1, k2, k3, k4⟩ := c.blk i cs f h
    obtain ⟨el2, fr2, q1, q2⟩ := hget _ _ _ _ k2 (by simpa using k4)
    exact ⟨b1, el2, fr2, us, k1, q1, RL_mono m _ _ k3, by simpa using q2⟩
  · intro i e1 h hg1
    obtain ⟨k0, ⟨k1, k2⟩ | ⟨b1, el1, fr1, us, rest, k1, k2, k3, k4⟩⟩ := c.grow i e1 h hg1
    · exact ⟨k0, .inl ⟨k1, k2⟩⟩
    · obtain ⟨el2, fr2, q1, q2⟩ := hget _ _ _ _ k2 (by simpa using k4)
      exact ⟨k0, .inr ⟨b1, el2, fr2, us, rest, k1, q1, RL_mono m _ _ k3, by simpa using q2⟩⟩
  · intro x o hx
    obtain ⟨k1, k2⟩ := c.imm x o hx
    exact ⟨by simpa [rewr] using k1, k2⟩
  · intro gl cs h
    obtain ⟨us, k1, k2⟩ := c.glob gl cs h
    exact ⟨us, RL_mono m.none _ _ k1, k2.mono m.imm⟩

theorem clear_mark {fr : Nat × Nat} {n : Nat} (h : clear fr n) : clear (if fr.1 == fr.2 then (n, n + 1) else (min fr.1 n, max fr.2 (n + 1))) n := by
  obtain ⟨h1, h2⟩ := h
  by_cases he : fr.1 = fr.2
  · simp only [beq_iff_eq, he, if_true]
    exact ⟨by simp, fun o ho => by simp; omega⟩
  · simp only [beq_iff_eq, he, if_false]
    have : n ≤ fr.1 := by
      refine Classical.byContradiction fun hn => h2 fr.1 (by omega) ⟨Nat.le_refl _, by omega⟩
    exact ⟨by simp only []; omega, fun o ho => by simp only []; omega⟩

theorem run_mark {t e : TypeId} (ht : P.underlying t = some (.slice e)) (he : P.underlying e = some (.int .u8)) {b off : Nat} {cells : Array Value} {el : TypeId} {fr : Nat × Nat}
    (hw : w.heap[b]? = some (.cells cells el fr)) (n k : Nat) :
    (convert t t (.slice (some ⟨b, off, none⟩) n k)).run P w = .ok (.slice (some ⟨b, off, none⟩) n k) (rewr w b (.cells cells el (if fr.1 == fr.2 then (cells.size, cells.size + 1) else (min fr.1 cells.size, max fr.2 (cells.size + 1))))) := by
  have hsh : w.shape? b = some (el, cells.size) := by unfold World.shape?; rw [hw]
  have hlt : b < w.heap.size := (Array.getElem?_eq_some_iff.1 hw).1
  have hfr : w.freeze ⟨b, cells.size, none⟩ 1 = rewr w b (.cells cells el (if fr.1 == fr.2 then (cells.size, cells.size + 1) else (min fr.1 cells.size, max fr.2 (cells.size + 1)))) := by
    unfold World.freeze rewr
    rw [if_neg (by decide)]
    congr 1
    apply Array.ext
    · simp
    · intro i h1 h2
      simp only [Array.getElem_modify, Array.getElem_setIfInBounds]
      by_cases h : b = i
      · subst h
        have : w.heap[b] = .cells cells el fr := by
          rw [Array.getElem?_eq_getElem hlt] at hw
          exact Option.some.inj hw
        simp [this]
      · have h' : ¬ (({ block := b, off := cells.size } : Addr).block = i) := h
        rw [if_neg h']
        exact (Array.getElem_setIfInBounds_ne (by simpa using h1) h).symm
  simp only [beq_iff_eq] at hfr
  simp [convert, run_underlying ht, run_underlying he, markStringish, hsh]
  exact hfr

theorem slOps_sound (c : Conc G.g ρ I H w) (ev : Operand → AV) (e : Operand → Value) (r : ∀ x, rel ρ I w (ev x) (e x)) (o : Oper) (nid : Nat) (E : Eff) (v : AV) (u : List (Nat × Ent)) (h : slOps G o.op ev H nid = some E) (hh : E.has v u) :
    EffOk G ρ I H w ((execOp e o).run P w) v u := by
  have pure1 : ∀ {s : Sem Value} {p : Bool × AV} {x : Value}, (∀ (x : Value) (w' : World), s.run P w = .ok x w' → (execOp e o).run P w = .ok (.value x) w') → s.run P w = .ok x w → rel ρ I w p.2 x → E = .one p.1 p.2 [] → EffOk G ρ I H w ((execOp e o).run P w) v u := by
    rintro s p x he h1 h2 rfl
    obtain ⟨_, rfl, rfl⟩ := hh
    exact EffOk.of_val he ⟨x, w, ρ, h1, Good.refl _ _ _ _, c, Mono.refl', h2⟩
  unfold slOps at h
  split at h
  · rename_i t x lo hi mx hop
    have he : ∀ (y : Value) (w' : World), (Instr.sliceAt t (e x) (lo.map e) (hi.map e) (mx.map e)).run P w = .ok y w' → (execOp e o).run P w = .ok (.value y) w' := fun y w' h => by simp [execOp, hop, h]
    split at h
    · rename_i ti lo' hi' hti hlo hhi
      have b1 := optI_BV (ρ := ρ) (I := I) (w := w) (e := e) r hlo
      have b2 := optI_BV (ρ := ρ) (I := I) (w := w) (e := e) r hhi
      split at h
      · split at h
        · rename_i cc v' hs
          simp only [Option.some.injEq] at h
          subst h
          obtain ⟨y, k1, k2⟩ := sl_sound c hti (r x) b1 b2 hs hh.1
          exact pure1 (p := (cc, v')) he k1 k2 rfl
        · simp at h
      · rename_i m
        split at h
        · rename_i hh' k n hm
          split at h
          · rename_i cc v' hs
            simp only [Option.some.injEq] at h
            subst h
            have b3 : BV ((some m).map e) (some n) := ⟨k, rel_toI hm (r m)⟩
            obtain ⟨y, k1, k2⟩ := sl3_sound hti (r x) b1 b2 b3 hs hh.1
            exact pure1 (p := (cc, v')) he k1 k2 rfl
          · simp at h
        · simp at h
    · simp at h
  · rename_i t l k hop
    exact EffOk.of_val (s := Instr.makeSlice t (e l) (e k)) (fun y w' h => by simp [execOp, hop, h]) (aMake_sound c (r l) (r k) h hh)
  · rename_i t len parts hop
    refine EffOk.of_val (s := Instr.buildSlice t len (parts.map fun (i, x) => (i, e x))) (fun y w' h => by simp only [execOp, hop, Sem.run_bind, h, Result.andThen_ok]; rfl) (aBuildS_sound c ?_ ?_ h hh)
    · simp [Function.comp_def]
    · simpa [Function.comp_def] using RV_mapev2 r parts.toList
  · rename_i s d x hop
    split at h
    · rename_i ts td id off kk len hts htd hx
      obtain ⟨js, ds, _, s2, _, _, s5, _⟩ := ty_ok hts
      obtain ⟨jd, dd, _, d2, _, _, d5, _⟩ := ty_ok htd
      split at h
      · rename_i e0 e' hks hkd
        rw [hkd] at d5
        obtain rfl := TK.of_slice d5
        split at h
        · rename_i te hte
          obtain ⟨je, de, _, e2, _, _, e5, _⟩ := ty_ok hte
          split at h
          · rename_i hke
            rw [hke] at e5
            obtain rfl := TK.of_int e5
            split at h
            · rename_i l f hid
              simp only [Option.some.injEq] at h
              subst h
              obtain ⟨h1, _, rfl, rfl⟩ := hh
              simp only [Bool.and_eq_true, beq_iff_eq, List.isEmpty_iff, ltB_iff] at h1
              obtain ⟨⟨rfl, rfl⟩, h3⟩ := h1
              have hv := r x
              rw [hx] at hv
              rcases rel_sl.1 hv with ⟨b, cap, k1, k2, k3, k4, k5⟩ | ⟨k1, _⟩
              · obtain ⟨k0, ⟨k1', _⟩ | ⟨b1, el1, fr1, us, rest, q1, q2, q3, q4⟩⟩ := c.grow id _ hid rfl
                · rw [k1] at k1'; simp at k1'
                · rw [k1] at q1
                  simp only [Option.some.injEq] at q1
                  subst q1
                  obtain ⟨g1, g2, g3⟩ := mark_own c hid rfl rfl k1 q2 clear_mark
                  refine EffOk.of_val (s := convert s s (e x)) (fun y w' h => by simp [execOp, hop, h]) ⟨_, _, _, by rw [k2]; exact run_mark d2 e2 q2 _ _, g1, g2, g3, ?_⟩
                  rw [← k2]
                  exact rel_mono g3 hv
              · omega
            · simp at h
          · simp at h
        · simp at h
      · simp at h
    · rename_i ts td l hts htd hx
      obtain ⟨js, ds, _, s2, _, _, s5, _⟩ := ty_ok hts
      obtain ⟨jd, dd, _, d2, _, _, d5, _⟩ := ty_ok htd
      split at h
      · rename_i e' hks hkd
        rw [hks] at s5
        rw [hkd] at d5
        obtain rfl := TK.of_string s5
        obtain rfl := TK.of_slice d5
        split at h
        · rename_i te hte
          obtain ⟨je, de, _, e2, _, _, e5, _⟩ := ty_ok hte
          split at h
          · rename_i hke
            rw [hke] at e5
            obtain rfl := TK.of_int e5
            simp only [Option.some.injEq] at h
            subst h
            obtain ⟨h1, _, rfl, rfl⟩ := hh
            simp only [Bool.and_eq_true, beq_iff_eq] at h1
            have hv : e x = .string ⟨l.toArray⟩ := by
              have := r x
              rw [hx] at this
              exact rel_str.1 this
            have hrun := Lib.run_convert_string_bytes (P := P) w s d e' ⟨l.toArray⟩ s2 d2 e2
            have hcs : Lib.bytesCells w e' ⟨l.toArray⟩ = (v8 l ++ (Array.replicate (grownCap w l.length 0 e' - l.length) (Value.int .u8 0)).toList).toArray := by
              simp [Lib.bytesCells, v8, ByteArray.size]
            have hnew := Lib.bytesWorld_at_new w e' ⟨l.toArray⟩
            rw [hcs] at hnew
            have hge := grownCap_ge w l.length 0 e'
            obtain ⟨g1, g2, g3⟩ := new_grow (w' := Lib.bytesWorld w e' ⟨l.toArray⟩) (e := .grow8 l []) c (isRes_get h1.1) rfl trivial (Lib.bytesWorld_size _ _ _) (fun b hb => Lib.bytesWorld_at_old _ _ _ b hb) hnew RL_seg8 ⟨by simp, fun o ho => by simp at ho ⊢; omega⟩ rfl rfl rfl
            refine EffOk.of_val (s := convert s d (e x)) (fun y w' h => by simp [execOp, hop, h]) ⟨_, _, _, by rw [hv]; exact hrun, g1, g2, g3, ?_⟩
            have := new_sl (ρ := ρ) (I := I) (nid := nid) (n := l.length) (cap := grownCap w l.length 0 e') (k := 1) (Lib.bytesWorld_size w e' ⟨l.toArray⟩) hnew hge (by simp [length_v8]; omega)
            simpa [ByteArray.size] using this
          · simp at h
        · simp at h
      · simp at h
    · simp at h
  · rename_i cl hop
    split at h
    · rename_i hfo
      split at h
      · rename_i s x t tx ha ht
        have hargs : cl.args.map e = #[e s, e x] := by
          apply Array.toList_inj.1
          simp [ha]
        have hat : cl.argTypes = #[t, tx] := by
          apply Array.toList_inj.1
          simp [ht]
        refine EffOk.of_val (s := Builtin.append_ #[t, tx] o.type #[e s, e x]) (fun y w' h => ?_) (aAppend_sound c (r s) (r x) h hh)
        rw [run_call_builtin hop hfo, hargs, hat]
        simp [builtin, h]
      · simp at h
    · rename_i hfo
      split at h
      · rename_i s x t tx ha ht
        have hargs : cl.args.map e = #[e s, e x] := by
          apply Array.toList_inj.1
          simp [ha]
        have hat : cl.argTypes = #[t, tx] := by
          apply Array.toList_inj.1
          simp [ht]
        refine EffOk.of_val (s := Builtin.copy_ #[t, tx] o.type #[e s, e x]) (fun y w' h => ?_) (aCopy_sound c (r s) (r x) h hh)
        rw [run_call_builtin hop hfo, hargs, hat]
        simp [builtin, h]
      · simp at h
    · simp at h
  · simp at h
end

section
variable {P : Program} {G : Env P} {H H' : Heap}

theorem isRes_congr {nid : Nat} (h : H'[nid]? = H[nid]?) : isRes H' nid = isRes H nid := by unfold isRes; rw [h]
theorem content8_congr {x : AV} (hr : ∀ id ∈ refId x, H'[id]? = H[id]?) : content8 H' x = content8 H x := by
  cases x <;> simp only [refId, List.mem_singleton, forall_eq] at hr <;> simp [content8, hr]
theorem aSl_congr {ti : TI} {x : AV} {lo hi : Option Int} (hr : ∀ id ∈ refId x, H'[id]? = H[id]?) : aSl G ti H' x lo hi = aSl G ti H x lo hi := by
  unfold aSl
  cases ti.kind <;> cases x <;> simp_all [refId, entCells]
theorem srcB_congr {tix : TI} {x : AV} (hr : ∀ id ∈ refId x, H'[id]? = H[id]?) : srcB tix H' x = srcB tix H x := by
  cases x <;> simp only [srcB, content8_congr hr]
theorem srcR_congr {tix : TI} {x : AV} (hr : ∀ id ∈ refId x, H'[id]? = H[id]?) : srcR tix H' x = srcR tix H x := by
  cases x <;> simp only [refId, List.mem_singleton, forall_eq] at hr <;> simp [srcR, hr]
theorem appB_congr {te : TI} {nid : Nat} {s : AV} {new : List UInt8} (hr : ∀ id ∈ refId s, H'[id]? = H[id]?) : appB te H' nid s new = appB te H nid s new := by
  cases s <;> simp only [refId, List.mem_singleton, forall_eq] at hr <;> simp [appB, hr]
theorem appR_congr {te : TI} {nid : Nat} {s : AV} {new : List AV} (hr : ∀ id ∈ refId s, H'[id]? = H[id]?) : appR te H' nid s new = appR te H nid s new := by
  cases s <;> simp only [refId, List.mem_singleton, forall_eq] at hr <;> simp [appR, hr]
theorem aAppend_congr {t tx nid : Nat} {s x : AV} (h0 : H'[nid]? = H[nid]?) (h1 : ∀ id ∈ refId s, H'[id]? = H[id]?) (h2 : ∀ id ∈ refId x, H'[id]? = H[id]?) : aAppend G t tx H' nid s x = aAppend G t tx H nid s x := by
  simp only [aAppend, srcB_congr h2, srcR_congr h2, appB_congr h1, appR_congr h1, isRes_congr h0]
theorem aCopy_congr {t tx : Nat} {d x : AV} (h1 : ∀ id ∈ refId d, H'[id]? = H[id]?) (h2 : ∀ id ∈ refId x, H'[id]? = H[id]?) : aCopy G t tx H' d x = aCopy G t tx H d x := by
  simp only [aCopy, srcB_congr h2]
  cases d <;> simp only [refId, List.mem_singleton, forall_eq] at h1 <;> simp [h1]

theorem slOps_congr (op : Op) (ev ev' : Operand → AV) (H H' : Heap) (nid : Nat) (he : ∀ x ∈ op.operands, ev' x = ev x) (hr : ∀ id ∈ readsE ev op nid (slots G op), H'[id]? = H[id]?) : slOps G op ev' H' nid = slOps G op ev H nid := by
  have opt : ∀ o : Option Operand, (∀ x ∈ o, ev' x = ev x) → optI ev' o = optI ev o := by
    intro o ho
    cases o with
    | none => rfl
    | some x => simp only [optI, ho x rfl]
  cases op with
  | slice t x lo hi mx =>
    have hx : ev' x = ev x := he x (by simp [Op.operands])
    have hlo := opt lo fun y hy => he y (by simp [Op.operands]; rcases lo with _ | z <;> simp_all)
    have hhi := opt hi fun y hy => he y (by simp [Op.operands]; rcases hi with _ | z <;> simp_all)
    have hs : ∀ id ∈ refId (ev x), H'[id]? = H[id]? := fun id hid => hr id (by simp only [readsE]; exact List.mem_append_left _ (mem_refIds (by simp [Op.operands]) hid))
    cases mx with
    | none => simp only [slOps, hx, hlo, hhi, aSl_congr hs]
    | some m =>
      have hm : ev' m = ev m := he m (by simp [Op.operands])
      simp only [slOps, hx, hlo, hhi, hm, aSl_congr hs]
  | makeSlice t l c =>
    have h0 : H'[nid]? = H[nid]? := hr nid (by simp [readsE, slots, upTo])
    simp only [slOps, he l (by simp [Op.operands]), he c (by simp [Op.operands]), aMake, isRes_congr h0]
  | buildSlice t len parts =>
    have h0 : H'[nid]? = H[nid]? := hr nid (by simp [readsE, slots, upTo])
    have hp : (parts.toList.map fun p => (p.1, ev' p.2)) = parts.toList.map fun p => (p.1, ev p.2) := by
      apply List.map_congr_left
      intro p hp
      rw [he p.2 (by simp only [Op.operands, List.mem_toArray, List.mem_map]; exact ⟨p, hp, rfl⟩)]
    simp only [slOps, hp, aBuildS, isRes_congr h0]
  | convert s d x =>
    simp only [slOps, he x (by simp [Op.operands])]
    split
    · rename_i ts td id off kk len hts htd hx
      rw [hr id (by simp only [readsE]; exact List.mem_append_left _ (mem_refIds (x := x) (by simp [Op.operands]) (by rw [hx]; simp [refId])))]
    · rename_i ts td l hts htd hx
      split
      · rename_i e' hks hkd
        have h0 : H'[nid]? = H[nid]? := hr nid (by simp [readsE, slots, upTo, htd, hkd])
        rw [isRes_congr h0]
      · rfl
    · rfl
  | call c =>
    have hm : ∀ x ∈ c.args.toList, ev' x = ev x ∧ ∀ id ∈ refId (ev x), H'[id]? = H[id]? := fun x hx =>
      have hx' : x ∈ (Op.call c).operands.toList := by simp [Op.operands, Call.operands]; right; simpa using hx
      ⟨he x (by simpa using hx'), fun id hid => hr id (by simp only [readsE]; exact List.mem_append_left _ (mem_refIds hx' hid))⟩
    simp only [slOps]
    split
    · rename_i hfo
      have h0 : H'[nid]? = H[nid]? := hr nid (by simp [readsE, slots, upTo, hfo])
      split
      · rename_i s x t tx ha ht
        obtain ⟨e1, r1⟩ := hm s (by rw [ha]; simp)
        obtain ⟨e2, r2⟩ := hm x (by rw [ha]; simp)
        rw [e1, e2, aAppend_congr h0 r1 r2]
      · rfl
    · split
      · rename_i s x t tx ha ht
        obtain ⟨e1, r1⟩ := hm s (by rw [ha]; simp)
        obtain ⟨e2, r2⟩ := hm x (by rw [ha]; simp)
        rw [e1, e2, aCopy_congr r1 r2]
      · rfl
    · rfl
  | _ => rfl

/-- Operations on slices, as the walker takes them. -/
def ROps.std (G : Env P) : ROps G := { f := slOps G, congr := slOps_congr, sound := fun _ _ _ _ c ev e r o nid E v u h hh => slOps_sound c ev e r o nid E v u h hh }
end
end
end Go.V

set_option linter.unusedSimpArgs false
set_option linter.unusedVariables false
namespace Go.Proofs.YtdipeoacmapehaaDoor
open Go Go.V Go.Cha
set_option maxRecDepth 100000
noncomputable abbrev RS := ROps.std Tryd.E
noncomputable abbrev T0 := Ctr.nil Tryd.E

theorem rot_w0 (x : UInt32) (K : AV → Heap → Prop) : walk Tryd.E RS T0.C (fun _ _ => .unroll 6) 3 29 [.u32 x, .int .i64 (16)] K = K (.u32 (rotS x 16 16)) [] := by kernel_rfl
theorem rot_c0 (x : UInt32) : HCall Tryd.E 29 [.u32 x, .int .i64 (16)] (.ret (.u32 (rotS x 16 16)) []) := by
  refine HCall.of_walk (R := RS) (T := T0) (fun _ _ => .unroll 6) 3 rfl rfl ?_
  rw [rot_w0]
  exact ⟨rfl, rfl⟩
theorem rot_w1 (x : UInt32) (K : AV → Heap → Prop) : walk Tryd.E RS T0.C (fun _ _ => .unroll 6) 3 29 [.u32 x, .int .i64 (12)] K = K (.u32 (rotS x 12 20)) [] := by kernel_rfl
theorem rot_c1 (x : UInt32) : HCall Tryd.E 29 [.u32 x, .int .i64 (12)] (.ret (.u32 (rotS x 12 20)) []) := by
  refine HCall.of_walk (R := RS) (T := T0) (fun _ _ => .unroll 6) 3 rfl rfl ?_
  rw [rot_w1]
  exact ⟨rfl, rfl⟩
theorem rot_w2 (x : UInt32) (K : AV → Heap → Prop) : walk Tryd.E RS T0.C (fun _ _ => .unroll 6) 3 29 [.u32 x, .int .i64 (8)] K = K (.u32 (rotS x 8 24)) [] := by kernel_rfl
theorem rot_c2 (x : UInt32) : HCall Tryd.E 29 [.u32 x, .int .i64 (8)] (.ret (.u32 (rotS x 8 24)) []) := by
  refine HCall.of_walk (R := RS) (T := T0) (fun _ _ => .unroll 6) 3 rfl rfl ?_
  rw [rot_w2]
  exact ⟨rfl, rfl⟩
theorem rot_w3 (x : UInt32) (K : AV → Heap → Prop) : walk Tryd.E RS T0.C (fun _ _ => .unroll 6) 3 29 [.u32 x, .int .i64 (7)] K = K (.u32 (rotS x 7 25)) [] := by kernel_rfl
theorem rot_c3 (x : UInt32) : HCall Tryd.E 29 [.u32 x, .int .i64 (7)] (.ret (.u32 (rotS x 7 25)) []) := by
  refine HCall.of_walk (R := RS) (T := T0) (fun _ _ => .unroll 6) 3 rfl rfl ?_
  rw [rot_w3]
  exact ⟨rfl, rfl⟩
theorem rot_w4 (x : UInt32) (K : AV → Heap → Prop) : walk Tryd.E RS T0.C (fun _ _ => .unroll 6) 3 29 [.u32 x, .int .i64 (-16)] K = K (.u32 (rotS x 16 16)) [] := by kernel_rfl
theorem rot_c4 (x : UInt32) : HCall Tryd.E 29 [.u32 x, .int .i64 (-16)] (.ret (.u32 (rotS x 16 16)) []) := by
  refine HCall.of_walk (R := RS) (T := T0) (fun _ _ => .unroll 6) 3 rfl rfl ?_
  rw [rot_w4]
  exact ⟨rfl, rfl⟩
theorem rot_w5 (x : UInt32) (K : AV → Heap → Prop) : walk Tryd.E RS T0.C (fun _ _ => .unroll 6) 3 29 [.u32 x, .int .i64 (-12)] K = K (.u32 (rotS x 20 12)) [] := by kernel_rfl
theorem rot_c5 (x : UInt32) : HCall Tryd.E 29 [.u32 x, .int .i64 (-12)] (.ret (.u32 (rotS x 20 12)) []) := by
  refine HCall.of_walk (R := RS) (T := T0) (fun _ _ => .unroll 6) 3 rfl rfl ?_
  rw [rot_w5]
  exact ⟨rfl, rfl⟩
theorem rot_w6 (x : UInt32) (K : AV → Heap → Prop) : walk Tryd.E RS T0.C (fun _ _ => .unroll 6) 3 29 [.u32 x, .int .i64 (-8)] K = K (.u32 (rotS x 24 8)) [] := by kernel_rfl
theorem rot_c6 (x : UInt32) : HCall Tryd.E 29 [.u32 x, .int .i64 (-8)] (.ret (.u32 (rotS x 24 8)) []) := by
  refine HCall.of_walk (R := RS) (T := T0) (fun _ _ => .unroll 6) 3 rfl rfl ?_
  rw [rot_w6]
  exact ⟨rfl, rfl⟩
theorem rot_w7 (x : UInt32) (K : AV → Heap → Prop) : walk Tryd.E RS T0.C (fun _ _ => .unroll 6) 3 29 [.u32 x, .int .i64 (-7)] K = K (.u32 (rotS x 25 7)) [] := by kernel_rfl
theorem rot_c7 (x : UInt32) : HCall Tryd.E 29 [.u32 x, .int .i64 (-7)] (.ret (.u32 (rotS x 25 7)) []) := by
  refine HCall.of_walk (R := RS) (T := T0) (fun _ _ => .unroll 6) 3 rfl rfl ?_
  rw [rot_w7]
  exact ⟨rfl, rfl⟩
noncomputable def T1 : Ctr Tryd.E := T0.add 29 (fun
    | [.u32 x, .int .i64 k] => bif k == 16 then some (true, .ret (.u32 (rotS x 16 16)) []) else bif k == 12 then some (true, .ret (.u32 (rotS x 12 20)) []) else bif k == 8 then some (true, .ret (.u32 (rotS x 8 24)) []) else bif k == 7 then some (true, .ret (.u32 (rotS x 7 25)) []) else bif k == -16 then some (true, .ret (.u32 (rotS x 16 16)) []) else bif k == -12 then some (true, .ret (.u32 (rotS x 20 12)) []) else bif k == -8 then some (true, .ret (.u32 (rotS x 24 8)) []) else bif k == -7 then some (true, .ret (.u32 (rotS x 25 7)) []) else none
    | _ => none) (by
      intro args pre out h hp
      split at h
      · rename_i x k
        by_cases h0 : k = 16
        · subst h0
          simp only [beq_self_eq_true, cond_true, Int.reduceBEq, Int.reduceNeg, cond_false, Option.some.injEq, Prod.mk.injEq] at h
          obtain ⟨rfl, rfl⟩ := h
          exact rot_c0 _
        by_cases h1 : k = 12
        · subst h1
          simp only [beq_self_eq_true, cond_true, Int.reduceBEq, Int.reduceNeg, cond_false, Option.some.injEq, Prod.mk.injEq] at h
          obtain ⟨rfl, rfl⟩ := h
          exact rot_c1 _
        by_cases h2 : k = 8
        · subst h2
          simp only [beq_self_eq_true, cond_true, Int.reduceBEq, Int.reduceNeg, cond_false, Option.some.injEq, Prod.mk.injEq] at h
          obtain ⟨rfl, rfl⟩ := h
          exact rot_c2 _
        by_cases h3 : k = 7
        · subst h3
          simp only [beq_self_eq_true, cond_true, Int.reduceBEq, Int.reduceNeg, cond_false, Option.some.injEq, Prod.mk.injEq] at h
          obtain ⟨rfl, rfl⟩ := h
          exact rot_c3 _
        by_cases h4 : k = -16
        · subst h4
          simp only [beq_self_eq_true, cond_true, Int.reduceBEq, Int.reduceNeg, cond_false, Option.some.injEq, Prod.mk.injEq] at h
          obtain ⟨rfl, rfl⟩ := h
          exact rot_c4 _
        by_cases h5 : k = -12
        · subst h5
          simp only [beq_self_eq_true, cond_true, Int.reduceBEq, Int.reduceNeg, cond_false, Option.some.injEq, Prod.mk.injEq] at h
          obtain ⟨rfl, rfl⟩ := h
          exact rot_c5 _
        by_cases h6 : k = -8
        · subst h6
          simp only [beq_self_eq_true, cond_true, Int.reduceBEq, Int.reduceNeg, cond_false, Option.some.injEq, Prod.mk.injEq] at h
          obtain ⟨rfl, rfl⟩ := h
          exact rot_c6 _
        by_cases h7 : k = -7
        · subst h7
          simp only [beq_self_eq_true, cond_true, Int.reduceBEq, Int.reduceNeg, cond_false, Option.some.injEq, Prod.mk.injEq] at h
          obtain ⟨rfl, rfl⟩ := h
          exact rot_c7 _
        simp only [beq_eq_false_iff_ne.2 h0, beq_eq_false_iff_ne.2 h1, beq_eq_false_iff_ne.2 h2, beq_eq_false_iff_ne.2 h3, beq_eq_false_iff_ne.2 h4, beq_eq_false_iff_ne.2 h5, beq_eq_false_iff_ne.2 h6, beq_eq_false_iff_ne.2 h7, cond_false, reduceCtorEq] at h
      · simp at h)

def blockT (key nonce : List UInt8) (c : UInt32) (n : Nat) : List AV :=
  [.b8 32 key, .u32 c, .b8 12 nonce, .ptr 0 0, .any, .ptr 1 0, .ptr 2 0, .ptr 3 0, .any, .any, .ptr 4 0] ++ List.replicate 31 .any ++ [.int .i64 n] ++ List.replicate 58 .any
def blockH (key nonce : List UInt8) (c : UInt32) (n : Nat) : Heap :=
  [.blk [.b8 32 key] [], .blk [.b8 12 nonce] [], .blk [.b8 64 (List.replicate 64 0)] [], .blk [.w32 16 (roundsS (startS key c nonce) n)] [], .blk [.w32 16 (startS key c nonce)] []]
end Go.Proofs.YtdipeoacmapehaaDoor

set_option linter.unusedSimpArgs false
set_option linter.unusedVariables false
namespace Go.Proofs.YtdipeoacmapehaaDoor
open Go Go.V Go.Cha Go.Bla
/-- The loops of squeeze. -/
noncomputable def squeezeL (held : List UInt8) (v : List UInt32) : FuncId → Nat → LPlan := fun f l =>
  bif f == 22 && l == 3 then .rel [0, 1, 2, 4, 5] [] Nat (fun _ i => i ≤ 16) (fun i => 16 - i) (fun i => [(17, .int .i64 (i : Nat))]) (fun i => [(2, .blk [.w32 16 (wordsB held i)] [])])
  else bif f == 22 && l == 22 then .rel [0, 1, 2, 4, 5, 8, 10, 77] [] Nat (fun _ n => n ≤ 10) (fun n => 10 - n) (fun n => [(78, .int .i64 (n : Nat))]) (fun n => [(3, .blk [.w32 16 (roundsB (wordsB held 16) v n)] [])])
  else .unroll 17
end Go.Proofs.YtdipeoacmapehaaDoor

set_option linter.unusedSimpArgs false
set_option linter.unusedVariables false
namespace Go.Proofs.YtdipeoacmapehaaDoor
open Go Go.V Go.Cha Go.Bla
set_option maxHeartbeats 0
set_option maxRecDepth 100000

def sqA (h : List UInt32) (held : List UInt8) (n len : Int) : List AV := [.w32 8 h, .b8 64 held, .int .i64 n, .int .i64 len]
def sqT (h : List UInt32) (held : List UInt8) (n len : Int) (last : Bool) (k : Int) : List AV := [.agg (sqA h held n len), .bool last, .ptr 0 0, .any, .ptr 1 0, .ptr 2 0] ++ List.replicate 11 .any ++ [.int .i64 k] ++ List.replicate 143 .any
def sqH (h : List UInt32) (held : List UInt8) (n len : Int) (m : List UInt32) : Heap := [.blk (sqA h held n len) [], .blk [.w32 8 [0, 0, 0, 0, 0, 0, 0, 0]] [], .blk [.w32 16 m] []]
def sqU (h : List UInt32) (held : List UInt8) (n len : Int) (last : Bool) (k : Int) : List AV := [.agg (sqA h held n len), .bool last, .ptr 0 0, .any, .ptr 1 0, .ptr 2 0, .any, .any, .ptr 3 0, .any, .fn (.func 28) [] [.ptr 3 0]] ++ List.replicate 66 .any ++ [.n64 160 ordersL, .int .i64 k] ++ List.replicate 82 .any
def sqI (h : List UInt32) (held : List UInt8) (n len : Int) (m v : List UInt32) : Heap := [.blk (sqA h held n len) [], .blk [.w32 8 [0, 0, 0, 0, 0, 0, 0, 0]] [], .blk [.w32 16 m] [], .blk [.w32 16 v] []]
def wordC (i k : Int) : Bool := inB (wr .i64 (wr .i64 (4 * i) + k)) 64
def wordT (held : List UInt8) (i k : Int) (j : Nat) (l : List UInt32) : List UInt32 := l.set j (shl32 (l.getD j 0) 8 ||| (held.getD (Int.toNat (wr .i64 (wr .i64 (4 * i) + k))) 0).toUInt32)

def sqP (h : List UInt32) (held : List UInt8) (n len : Int) (last : Bool) (K : AV → Heap → Prop) : Prop :=
  ((∃ a : Nat, a ≤ 16 ∧ leS 3 ⟨sqT h held n len last 0, sqH h held n len [0, 0, 0, 0, 0, 0, 0, 0, 0, 0, 0, 0, 0, 0, 0, 0]⟩ (sqT h held n len last (a : Int)) (sqH h held n len (wordsB held a))) ∧
   ∀ a : Nat, a ≤ 16 → ite2 (ltI (a : Int) 16)
     (cnd (inB (a : Int) 16) (cnd (wordC a 3) (cnd (inB (a : Int) 16) (cnd (inB (a : Int) 16) (cnd (wordC a 2) (cnd (inB (a : Int) 16) (cnd (inB (a : Int) 16) (cnd (wordC a 1) (cnd (inB (a : Int) 16) (cnd (inB (a : Int) 16) (cnd (wordC a 0) (cnd (inB (a : Int) 16)
       (∃ b : Nat, (16 - b < 16 - a ∧ b ≤ 16) ∧ leS 3 ⟨sqT h held n len last (wr .i64 ((a : Int) + 1)), sqH h held n len (wordT held a 0 a (wordT held a 1 a (wordT held a 2 a (wordT held a 3 a (wordsB held a)))))⟩ (sqT h held n len last (b : Int)) (sqH h held n len (wordsB held b)))))))))))))))
     ((∃ r : Nat, r ≤ 10 ∧ leS 4 ⟨sqU h held n len last 0, sqI h held n len (wordsB held a) (startB h len last)⟩ (sqU h held n len last (r : Int)) (sqI h held n len (wordsB held a) (roundsB (wordsB held 16) (startB h len last) r))) ∧
      ∀ r : Nat, r ≤ 10 → ite2 (ltI (r : Int) 10)
        (cnd (inB (r : Int) 10 && true) (cnd (cB r 0) (cnd (cB r 1) (cnd (cB r 2) (cnd (cB r 3) (cnd (cB r 4) (cnd (cB r 5) (cnd (cB r 6) (cnd (cB r 7) (cnd (cB r 8) (cnd (cB r 9) (cnd (cB r 10) (cnd (cB r 11) (cnd (cB r 12) (cnd (cB r 13) (cnd (cB r 14) (cnd (cB r 15) ((∃ b : Nat, (10 - b < 10 - r ∧ b ≤ 10) ∧ leS 4 ⟨sqU h held n len last (wr .i64 ((r : Int) + 1)), sqI h held n len (wordsB held a) (roundB (wordsB held a) r (roundsB (wordsB held 16) (startB h len last) r))⟩ (sqU h held n len last (b : Int)) (sqI h held n len (wordsB held a) (roundsB (wordsB held 16) (startB h len last) b)))))))))))))))))))))
        (K (.w32 8 (outB h (roundsB (wordsB held 16) (startB h len last) r))) [])))
theorem squeezeT_w (h : List UInt32) (held : List UInt8) (n len : Int) (K : AV → Heap → Prop) : walk Tryd.E RS T1.C (squeezeL held (startB h len true)) 5 22 [.agg [.w32 8 h, .b8 64 held, .int .i64 n, .int .i64 len], .bool true] K = sqP h held n len true K := by kernel_rfl
theorem squeezeF_w (h : List UInt32) (held : List UInt8) (n len : Int) (K : AV → Heap → Prop) : walk Tryd.E RS T1.C (squeezeL held (startB h len false)) 5 22 [.agg [.w32 8 h, .b8 64 held, .int .i64 n, .int .i64 len], .bool false] K = sqP h held n len false K := by kernel_rfl
end Go.Proofs.YtdipeoacmapehaaDoor

/- A number brought below another one, as the laws do it. -/
set_option linter.unusedSimpArgs false
set_option linter.unusedVariables false
namespace Go.V
open Go
theorem pick_val {n m : Int} (hm : 0 < m) : (if n.tmod m < 0 then n.tmod m + m else n.tmod m) = n % m := by
  rcases Int.lt_or_le n 0 with h | h
  · have h1 := Int.neg_tmod (a := -n) (b := m)
    rw [Int.neg_neg, Int.tmod_eq_emod_of_nonneg (a := -n) (by omega)] at h1
    have h3 := Int.emod_nonneg (-n) (show m ≠ 0 by omega)
    have h4 := Int.emod_lt_of_pos (-n) hm
    have h5 := Int.neg_emod (a := n) (b := m)
    have h6 := Int.emod_nonneg n (show m ≠ 0 by omega)
    have h7 := Int.emod_lt_of_pos n hm
    rw [h1]
    have e1 : m * (n / m) + n % m = n := Int.mul_ediv_add_emod n m
    have e2 : m * (-n / m) + -n % m = -n := Int.mul_ediv_add_emod (-n) m
    have e3 : m * (n / m + -n / m) + (n % m + -n % m) = 0 := by rw [Int.mul_add]; omega
    generalize n / m + -n / m = q at e3
    have hq : q = 0 ∨ q = -1 := by
      rcases Int.lt_or_le q (-1) with hq | hq
      · have := Int.mul_le_mul_of_nonneg_left (show q ≤ -2 by omega) (show 0 ≤ m by omega)
        omega
      · rcases Int.lt_or_le 0 q with hq' | hq'
        · have := Int.mul_le_mul_of_nonneg_left (show 1 ≤ q by omega) (show 0 ≤ m by omega)
          omega
        · omega
    rcases hq with rfl | rfl
    · rw [Int.mul_zero] at e3; split <;> omega
    · split <;> omega
  · rw [Int.tmod_eq_emod_of_nonneg h]
    have := Int.emod_nonneg n (show m ≠ 0 by omega)
    rw [if_neg (by omega)]
theorem wrapI {n : Int} (h : -9223372036854775808 ≤ n) (h2 : n ≤ 9223372036854775807) : IntKind.i64.wrap n = n := by
  have := IntKind.wrap_i64 n
  rw [this]; omega
theorem getD_take {α : Type} {l : List α} {i n : Nat} {d : α} (h : i < n) : (l.take n).getD i d = l.getD i d := by
  simp [List.getD_eq_getElem?_getD, List.getElem?_take, h]
end Go.V

/- Integers that stay within their bounds. -/
set_option linter.unusedSimpArgs false
set_option linter.unusedVariables false
namespace Go.V
open Go
theorem wr_of {z : Int} (h : -9223372036854775808 ≤ z) (h2 : z ≤ 9223372036854775807) : wr .i64 z = z := by rw [wr_eq, wrapI h h2]
theorem ltI_of {x y : Int} (h : x < y) : ltI x y = true := by rw [ltI_eq, decide_eq_true h]
theorem ltI_no {x y : Int} (h : y ≤ x) : ltI x y = false := by rw [ltI_eq, decide_eq_false (by omega)]
theorem of_ltI {x y : Int} (h : ltI x y = true) : x < y := (ltI_iff x y).1 h
theorem of_ltI_no {x y : Int} (h : ltI x y = false) : y ≤ x := by
  rcases Int.lt_or_le x y with h1 | h1
  · rw [ltI_of h1] at h; exact Bool.noConfusion h
  · exact h1
theorem of_ltB {a b : Nat} (h : ltB a b = true) : a < b := ltB_iff.1 h
theorem of_ltB_no {a b : Nat} (h : ltB a b = false) : b ≤ a := by
  rcases Nat.lt_or_ge a b with h1 | h1
  · rw [ltB_of h1] at h; exact Bool.noConfusion h
  · exact h1
theorem ltB_no {a b : Nat} (h : b ≤ a) : ltB a b = false := by
  cases e : ltB a b
  · rfl
  · have := of_ltB e; omega
theorem leB_no {a b : Nat} (h : b < a) : leB a b = false := by
  cases e : leB a b
  · rfl
  · have := leB_iff.1 e; omega
theorem of_leB_no {a b : Nat} (h : leB a b = false) : b < a := by
  rcases Nat.lt_or_ge b a with h1 | h1
  · exact h1
  · rw [leB_of h1] at h; exact Bool.noConfusion h
theorem ofs0 (n : Nat) : ofs 0 (n : Int) = n := rfl
end Go.V

set_option linter.unusedSimpArgs false
set_option linter.unusedVariables false
namespace Go.Proofs.YtdipeoacmapehaaDoor
open Go Go.V Go.Cha Go.Bla
set_option maxRecDepth 100000

theorem le_sqT (h : List UInt32) (held : List UInt8) (n len : Int) (last : Bool) (k : Int) (m : List UInt32) : leS 3 ⟨sqT h held n len last k, sqH h held n len m⟩ (sqT h held n len last k) (sqH h held n len m) :=
  ⟨rfl, rfl, rfl, rfl, rfl, rfl, rfl, rfl, rfl, trivial⟩
theorem le_sqU (h : List UInt32) (held : List UInt8) (n len : Int) (last : Bool) (k : Int) (m v : List UInt32) : leS 4 ⟨sqU h held n len last k, sqI h held n len m v⟩ (sqU h held n len last k) (sqI h held n len m v) :=
  ⟨rfl, rfl, rfl, rfl, rfl, rfl, rfl, rfl, rfl, rfl, rfl, rfl, trivial⟩

theorem word_steps (held : List UInt8) (a : Nat) (ha : a < 16) : wordT held a 0 a (wordT held a 1 a (wordT held a 2 a (wordT held a 3 a (wordsB held a)))) = wordsB held (a + 1) := by
  have hl := length_wordsB held a
  have h0 := words_get held (Nat.le_refl a)
  have ix : ∀ k : Nat, k ≤ 3 → Int.toNat (wr .i64 (wr .i64 (4 * (a : Int)) + (k : Int))) = 4 * a + k := fun k hk => by
    rw [wr_of (z := 4 * (a : Int)) (by omega) (by omega), wr_of (by omega) (by omega)]; omega
  rw [← words_succ]
  unfold wordT wordB
  rw [h0, show (3 : Int) = ((3 : Nat) : Int) from rfl, show (2 : Int) = ((2 : Nat) : Int) from rfl, show (1 : Int) = ((1 : Nat) : Int) from rfl, show (0 : Int) = ((0 : Nat) : Int) from rfl, ix 3 (by decide), ix 2 (by decide), ix 1 (by decide), ix 0 (by decide)]
  rw [getD_set_same (by first | (simp only [List.length_set]; omega) | omega), List.set_set, getD_set_same (by first | (simp only [List.length_set]; omega) | omega), List.set_set, getD_set_same (by first | (simp only [List.length_set]; omega) | omega), List.set_set]
  rfl
theorem wordC_ok {a k : Nat} (ha : a < 16) (hk : k ≤ 3) : wordC a k = true := by
  unfold wordC
  rw [wr_of (z := 4 * (a : Int)) (by omega) (by omega), wr_of (by omega) (by omega)]
  exact inB_of (by omega) (by omega)

theorem sq_law (h : List UInt32) (held : List UInt8) (n len : Int) (last : Bool) :
    ((∃ a : Nat, a ≤ 16 ∧ leS 3 ⟨sqT h held n len last 0, sqH h held n len [0, 0, 0, 0, 0, 0, 0, 0, 0, 0, 0, 0, 0, 0, 0, 0]⟩ (sqT h held n len last (a : Int)) (sqH h held n len (wordsB held a))) ∧
     (∀ a : Nat, a < 16 → (∃ b : Nat, (16 - b < 16 - a ∧ b ≤ 16) ∧ leS 3 ⟨sqT h held n len last (wr .i64 ((a : Int) + 1)), sqH h held n len (wordT held a 0 a (wordT held a 1 a (wordT held a 2 a (wordT held a 3 a (wordsB held a)))))⟩ (sqT h held n len last (b : Int)) (sqH h held n len (wordsB held b)))) ∧
     (∀ m v : List UInt32, ∃ r : Nat, r ≤ 10 ∧ leS 4 ⟨sqU h held n len last 0, sqI h held n len m v⟩ (sqU h held n len last (r : Int)) (sqI h held n len m (roundsB m v r))) ∧
     (∀ (m v : List UInt32) (r : Nat), r < 10 → (∃ b : Nat, (10 - b < 10 - r ∧ b ≤ 10) ∧ leS 4 ⟨sqU h held n len last (wr .i64 ((r : Int) + 1)), sqI h held n len m (roundB m r (roundsB m v r))⟩ (sqU h held n len last (b : Int)) (sqI h held n len m (roundsB m v b))))) := by
  refine ⟨⟨0, by omega, ?_⟩, fun a ha => ⟨a + 1, ⟨by omega, by omega⟩, ?_⟩, fun m v => ⟨0, by omega, ?_⟩, fun m v r hr => ⟨r + 1, ⟨by omega, by omega⟩, ?_⟩⟩
  · rw [words_zero]; exact le_sqT ..
  · rw [word_steps held a ha, wr_of (by omega) (by omega)]; exact le_sqT ..
  · rw [Bla.rounds_zero]; exact le_sqU ..
  · rw [Bla.rounds_succ, wr_of (by omega) (by omega)]; exact le_sqU ..

theorem sq_go (h : List UInt32) (held : List UInt8) (n len : Int) (last : Bool) : ∀ K : AV → Heap → Prop, K (.w32 8 (squeezeS h held len last)) [] → sqP h held n len last K := by
  obtain ⟨p1, p2, p3, p4⟩ := sq_law h held n len last
  intro K hK
  refine ⟨p1, fun a ha => ?_⟩
  rcases Nat.lt_or_ge a 16 with h1 | h1
  · rw [ltI_of (by omega), inB_of (by omega) (by omega), show wordC a 3 = true from wordC_ok (k := 3) h1 (by decide), show wordC a 2 = true from wordC_ok (k := 2) h1 (by decide), show wordC a 1 = true from wordC_ok (k := 1) h1 (by decide), show wordC a 0 = true from wordC_ok (k := 0) h1 (by decide)]
    exact p2 a h1
  · obtain rfl : a = 16 := by omega
    rw [ltI_no (by omega)]
    refine ⟨p3 _ _, fun r hr => ?_⟩
    rcases Nat.lt_or_ge r 10 with h2 | h2
    · rw [ltI_of (by omega), inB_of (by omega) (by omega)]
      have c := fun i hi => cB_ok (i := i) h2 hi
      rw [c 0 (by decide), c 1 (by decide), c 2 (by decide), c 3 (by decide), c 4 (by decide), c 5 (by decide), c 6 (by decide), c 7 (by decide), c 8 (by decide), c 9 (by decide), c 10 (by decide), c 11 (by decide), c 12 (by decide), c 13 (by decide), c 14 (by decide), c 15 (by decide)]
      exact p4 _ _ r h2
    · obtain rfl : r = 10 := by omega
      rw [ltI_no (by omega)]
      rw [squeezeS_eq] at hK
      unfold squeezeF at hK
      rw [← wordsB_eq, ← roundsB_eq] at hK
      exact ite2_iff.2 ⟨fun h => Bool.noConfusion h, fun _ => hK⟩
theorem squeeze_cT (h : List UInt32) (held : List UInt8) (n len : Int) : HCall Tryd.E 22 [.agg [.w32 8 h, .b8 64 held, .int .i64 n, .int .i64 len], .bool true] (.ret (.w32 8 (squeezeS h held len true)) []) := by
  refine HCall.of_walk (R := RS) (T := T1) (squeezeL held (startB h len true)) 5 rfl rfl ?_
  exact Eq.mpr (squeezeT_w h held n len _) (sq_go h held n len true _ has_refl)
theorem squeeze_cF (h : List UInt32) (held : List UInt8) (n len : Int) : HCall Tryd.E 22 [.agg [.w32 8 h, .b8 64 held, .int .i64 n, .int .i64 len], .bool false] (.ret (.w32 8 (squeezeS h held len false)) []) := by
  refine HCall.of_walk (R := RS) (T := T1) (squeezeL held (startB h len false)) 5 rfl rfl ?_
  exact Eq.mpr (squeezeF_w h held n len _) (sq_go h held n len false _ has_refl)
theorem squeeze_c (h : List UInt32) (held : List UInt8) (n len : Int) : ∀ last : Bool, HCall Tryd.E 22 [.agg [.w32 8 h, .b8 64 held, .int .i64 n, .int .i64 len], .bool last] (.ret (.w32 8 (squeezeS h held len last)) [])
  | true => squeeze_cT h held n len
  | false => squeeze_cF h held n len
noncomputable def B1 : Ctr Tryd.E := T1.add 22 (fun
    | [.agg [.w32 8 h, .b8 64 held, .int .i64 _, .int .i64 len], .bool last] => some (true, .ret (.w32 8 (squeezeS h held len last)) [])
    | _ => none) (by
      intro args pre out h hp
      split at h
      · simp only [Option.some.injEq, Prod.mk.injEq] at h
        obtain ⟨rfl, rfl⟩ := h
        exact squeeze_c ..
      · simp at h)
end Go.Proofs.YtdipeoacmapehaaDoor

/- The abstract layer (third state), part Z: a part of an array that is written no more, told by its bytes. -/
set_option linter.unusedSimpArgs false
set_option linter.unusedVariables false
namespace Go.V
open Go
noncomputable section

def Ent.freeze (r : Nat × Nat) : Ent → Ent
  | .blk c f => .blk c (r :: f)
  | .grow8 l f => .grow8 l (r :: f)
  | .grow k rows f => .grow k rows (r :: f)
  | e => e
/-- What is written no more: as before, and these cells. -/
def andI (I : Imm) (b : Nat) (r : Nat × Nat) : Imm := fun x o => I x o ∨ (x = b ∧ r.1 ≤ o ∧ o < r.2)

section
variable {g : Nat → Option (List AV)} {ρ : Rho} {I : Imm} {H : Heap} {w : World}

theorem freeze_conc (c : Conc g ρ I H w) {id b : Nat} {e : Ent} (hid : H[id]? = some e) (hl : e.live = true) (hf : e.frz = []) (hb : ρ id = some (some b)) (r : Nat × Nat) :
    Good ρ I H w ρ (andI I b r) (H.set id (e.freeze r)) w ∧ Conc g ρ (andI I b r) (H.set id (e.freeze r)) w ∧ Mono ρ I w ρ (andI I b r) w := by
  have hfl : (e.freeze r).live = true := by cases e <;> simp_all [Ent.freeze, Ent.live]
  have hfz : (e.freeze r).frz = [r] := by cases e <;> simp_all [Ent.freeze, Ent.live, Ent.frz]
  have hfg : (e.freeze r).grows = e.grows := by cases e <;> rfl
  have hfc : (e.freeze r).cells = e.cells := by cases e <;> rfl
  have live : ∀ (k : Nat) (e3 : Ent), (H.set id (e.freeze r))[k]? = some e3 → e3.live = true → ∃ e4 : Ent, H[k]? = some e4 ∧ e4.live = true ∧ (∀ o, inFrz e4.frz o → inFrz e3.frz o) := by
    intro k e3 hk l3
    rcases set_cases hk with ⟨rfl, rfl⟩ | ⟨_, h⟩
    · exact ⟨e, hid, hl, fun o h => by rw [hf] at h; obtain ⟨_, h, _⟩ := h; simp at h⟩
    · exact ⟨e3, h, l3, fun _ h => h⟩
  have mutb : ∀ x o, Mut ρ (H.set id (e.freeze r)) x o → Mut ρ H x o := by
    rintro x o ⟨k, e3, h1, h2, h3, h4⟩
    obtain ⟨e4, k1, k2, k3⟩ := live k e3 h1 h2
    exact ⟨k, e4, k1, k2, h3, fun h => h4 (k3 o h)⟩
  have hm : ∀ o, Mut ρ H b o := fun o => ⟨id, e, hid, hl, hb, by rw [hf]; rintro ⟨_, h, _⟩; simp at h⟩
  have m : Mono ρ I w ρ (andI I b r) w := ⟨fun _ _ h => h, fun _ _ h => ⟨.inl h, rfl⟩, fun _ h => ⟨h, rfl⟩⟩
  refine ⟨⟨fun _ _ h => h, ?_, by simp, fun _ _ h => .inl h, ?_, rfl, rfl, rfl, Nat.le_refl _, fun _ _ _ _ => rfl, fun _ _ _ => rfl, fun _ _ => rfl, fun x o _ h => mutb x o h, ?_⟩, ⟨fun i h => by simpa using c.dom i h, ?_, c.blt, ?_, ?_, ?_, ?_, ?_⟩, m⟩
  · rintro i x _ ⟨e1, h1, h2⟩
    rcases set_cases h1 with ⟨rfl, rfl⟩ | ⟨_, h⟩
    · exact ⟨e, hid, by rwa [hfg] at h2⟩
    · exact ⟨e1, h, h2⟩
  · rintro x o _ (h | ⟨rfl, _⟩)
    · exact .inl h
    · exact .inr (hm o)
  · rintro x _ ⟨k, e3, h1, h2, h3⟩
    obtain ⟨e4, k1, k2, _⟩ := live k e3 h1 h2
    exact ⟨k, e4, k1, k2, h3⟩
  · intro i h
    rcases set_cases h with ⟨rfl, h'⟩ | ⟨_, h⟩
    · rw [← h'] at hfl; simp [Ent.live] at hfl
    · exact c.res i h
  · intro i j x e1 e2 hi l1 hj l2 r1 r2
    obtain ⟨e3, k1, k2, _⟩ := live i e1 hi l1
    obtain ⟨e4, k3, k4, _⟩ := live j e2 hj l2
    exact c.inj i j x e3 e4 k1 k2 k3 k4 r1 r2
  · intro i cs f h
    rcases set_cases h with ⟨rfl, h'⟩ | ⟨_, h⟩
    · cases e <;> simp only [Ent.freeze, Ent.blk.injEq, reduceCtorEq] at h'
      obtain ⟨rfl, _⟩ := h'
      obtain ⟨b1, el1, fr1, us, k1, k2, k3, k4⟩ := c.blk i _ _ hid
      exact ⟨b1, el1, fr1, us, k1, k2, RL_mono m _ _ k3, k4⟩
    · obtain ⟨b1, el1, fr1, us, k1, k2, k3, k4⟩ := c.blk i cs f h
      exact ⟨b1, el1, fr1, us, k1, k2, RL_mono m _ _ k3, k4⟩
  · intro i e1 h hg1
    have fin : ∀ e2 : Ent, H[i]? = some e2 → e2.grows = true → e2.cells = e1.cells → (e2.even → e1.even) → e1.even ∧ ((ρ i = some none ∧ szL e1.cells = 0) ∨ ∃ b' el fr cs rest, ρ i = some (some b') ∧ w.heap[b']? = some (.cells (List.toArray (cs ++ rest)) el fr) ∧ RL ρ (andI I b r) w e1.cells cs ∧ clear fr (cs ++ rest).length) := by
      intro e2 h2 g2 hc hev
      obtain ⟨k0, k⟩ := c.grow i e2 h2 g2
      rw [hc] at k
      refine ⟨hev k0, ?_⟩
      rcases k with k | ⟨b1, el1, fr1, us, rest, k1, k2, k3, k4⟩
      · exact .inl k
      · exact .inr ⟨b1, el1, fr1, us, rest, k1, k2, RL_mono m _ _ k3, k4⟩
    rcases set_cases h with ⟨rfl, rfl⟩ | ⟨_, h⟩
    · exact fin e hid (by rwa [hfg] at hg1) hfc.symm (fun h => by cases e <;> simp_all [Ent.freeze, Ent.even])
    · exact fin e1 h hg1 rfl (fun h => h)
  · rintro x o (hx | ⟨rfl, h1, h2⟩)
    · obtain ⟨k1, k2⟩ := c.imm x o hx
      exact ⟨k1, fun h => k2 (mutb x o h)⟩
    · refine ⟨c.blt id x hb, ?_⟩
      rintro ⟨k, e3, k1, k2, k3, k4⟩
      rcases set_cases k1 with ⟨rfl, rfl⟩ | ⟨hne, h⟩
      · exact k4 (by rw [hfz]; exact ⟨r, by simp, h1, h2⟩)
      · exact hne (c.inj k id x e3 e h k2 hid hl k3 hb)
  · intro gl cs h
    obtain ⟨us, k1, k2⟩ := c.glob gl cs h
    exact ⟨us, RL_mono m.none _ _ k1, k2.mono m.imm⟩
end

section
variable {P : Program} (G : Env P)
/-- The array that a slice is taken of. -/
def arrOf (ti : TI) : Option (Nat × Nat) := match ti.kind with
  | .arr n e => some (n, e)
  | .ptr a => match G.ty a with
    | some ta => match ta.kind with
      | .arr n e => some (n, e)
      | _ => none
    | none => none
  | _ => none
/-- A part of an array of bytes, that is written no more from now on. -/
def aFrz (op : Op) (ev : Operand → AV) (H : Heap) : Option Eff :=
  match op with
  | .slice t x lo hi none => match G.ty t, optI ev lo, optI ev hi, ev x with
    | some ti, some lo', some hi', .ptr id off => match arrOf G ti, H[id]? with
      | some (n, e), some (.blk c f) => match takeL (dropL c off) n, aSl G ti H (.ptr id off) lo' hi', G.ty e with
        | [.b8 m l], some (cc, _), some te => some (.ck ((te.size == 1 && m == n) && f.isEmpty) (.one cc (.vec8 false (sliceL lo' hi' l)) [(id, .blk c [(off + loN lo', off + hiN n hi')])]))
        | _, _, _ => none
      | _, _ => none
    | _, _, _, _ => none
  | _ => none
end
section
variable {P : Program} {G : Env P} {ρ : Rho} {I : Imm} {H : Heap} {w : World}

theorem aSl_arr {ti te : TI} {n e id off : Nat} {lo hi : Option Int} {cc : Bool} {v : AV} (ha : arrOf G ti = some (n, e)) (he : G.ty e = some te) (h : aSl G ti H (.ptr id off) lo hi = some (cc, v)) :
    v = .sl id (off + loN lo * te.size) te.size (hiN n hi - loN lo) ∧ (cc = true → sliceOk lo hi n = true) := by
  unfold arrOf at ha
  unfold aSl at h
  split at ha
  · rename_i n' e' hk
    simp only [Option.some.injEq, Prod.mk.injEq] at ha
    obtain ⟨rfl, rfl⟩ := ha
    rw [hk] at h
    simp only [he] at h
    split at h
    · simp only [Option.some.injEq, Prod.mk.injEq] at h
      obtain ⟨rfl, rfl⟩ := h
      exact ⟨rfl, fun h => by simp only [Bool.and_eq_true] at h; exact h.2⟩
    · simp at h
  · rename_i a hk
    split at ha
    · rename_i ta hta
      split at ha
      · rename_i n' e' hka
        simp only [Option.some.injEq, Prod.mk.injEq] at ha
        obtain ⟨rfl, rfl⟩ := ha
        rw [hk] at h
        simp only [hta, hka, he] at h
        split at h
        · simp only [Option.some.injEq, Prod.mk.injEq] at h
          obtain ⟨rfl, rfl⟩ := h
          exact ⟨rfl, fun h => by simp only [Bool.and_eq_true] at h; exact h.2⟩
        · simp at h
      · simp at ha
    · simp at ha
  · simp at ha

theorem EffOk.of_fin {o : Oper} {e : Operand → Value} {s : Sem Value} (he : ∀ (x : Value) (w' : World), s.run P w = .ok x w' → (execOp e o).run P w = .ok (.value x) w') {v : AV} {u : List (Nat × Ent)}
    (h : ∃ v' w' ρ' I', s.run P w = .ok v' w' ∧ Good ρ I H w ρ' I' (updH H u) w' ∧ Conc G.g ρ' I' (updH H u) w' ∧ Mono ρ I w ρ' I' w' ∧ rel ρ' I' w' v v') : EffOk G ρ I H w ((execOp e o).run P w) v u := by
  obtain ⟨v', w', ρ', I', h1, h2, h3, h4, h5⟩ := h
  exact ⟨v', w', .inl (he _ _ h1), ρ', I', h2, h3, h4, h5⟩

theorem aFrz_sound (c : Conc G.g ρ I H w) (ev : Operand → AV) (e : Operand → Value) (r : ∀ x, rel ρ I w (ev x) (e x)) (o : Oper) (E : Eff) (v : AV) (u : List (Nat × Ent)) (h : aFrz G o.op ev H = some E) (hh : E.has v u) :
    EffOk G ρ I H w ((execOp e o).run P w) v u := by
  unfold aFrz at h
  split at h
  · rename_i t x lo hi hop
    split at h
    · rename_i ti lo' hi' id off hti hlo hhi hx
      split at h
      · rename_i n el cs f harr hid
        split at h
        · rename_i m l cc v0 te hseg hsl hte
          simp only [Option.some.injEq] at h
          subst h
          obtain ⟨h1, h2, rfl, rfl⟩ := hh
          simp only [Bool.and_eq_true, beq_iff_eq, List.isEmpty_iff] at h1
          obtain ⟨⟨h1, rfl⟩, rfl⟩ := h1
          obtain ⟨rfl, hok⟩ := aSl_arr harr hte hsl
          have hok := hok h2
          have b1 := optI_BV (ρ := ρ) (I := I) (w := w) (e := e) r hlo
          have b2 := optI_BV (ρ := ρ) (I := I) (w := w) (e := e) r hhi
          obtain ⟨y, k1, k2⟩ := sl_sound c hti (by have := r x; rwa [hx] at this) b1 b2 hsl h2
          have hp := r x
          rw [hx] at hp
          obtain ⟨b, hb, hxe⟩ := rel_ptr.1 hp
          obtain ⟨b', el', fr, us, q1, q2, q3, q4⟩ := c.blk id cs [] hid
          rw [hb] at q1
          simp only [Option.some.injEq] at q1
          subst q1
          have q5 := RL_take _ _ m (RL_drop _ _ off q3)
          rw [hseg] at q5
          obtain ⟨ys, zs, e1, ⟨e2, e3⟩, e4⟩ := RL_cons.1 q5
          cases e4
          rw [List.append_nil] at e1
          subst e2
          obtain ⟨f1, f2, f3⟩ := freeze_conc c hid rfl rfl hb (off + loN lo', off + hiN m hi')
          refine EffOk.of_fin (fun y w' h => by simp [execOp, hop, h]) (s := Instr.sliceAt t (e x) (lo.map e) (hi.map e) none) ⟨y, w, ρ, _, k1, f1, f2, f3, rel_vec8.2 ?_⟩
          obtain ⟨o1, o2, _, _⟩ := sliceOk_spec hok
          have hl := length_sliceL (l := l) (lo := lo') (hi := hi') (by rw [e3]; exact hok)
          rw [e3] at hl
          rw [h1, Nat.mul_one] at k2
          rw [hl]
          rcases rel_sl.1 k2 with ⟨b2', cap, g1, rfl, g2, g3, g4⟩ | ⟨g1, a, rfl⟩
          · rw [hb] at g1
            simp only [Option.some.injEq] at g1
            subst g1
            refine ⟨_, cap, rfl, g2, by simp, .inr ⟨b, off + loN lo', rfl, g3, fun i z hz => ?_⟩⟩
            have hlen : (v8 (sliceL lo' hi' l)).length = hiN m hi' - loN lo' := by rw [length_v8, hl]
            have hi3 : i < hiN m hi' - loN lo' := by rw [← hlen]; exact (List.getElem?_eq_some_iff.1 hz).1
            refine ⟨?_, .inr ⟨rfl, by simp only []; omega, by simp only []; omega⟩⟩
            rw [cell_of_heap q2]
            have hz2 : (v8 l)[loN lo' + i]? = some z := by
              rw [v8_slice (by rw [e3]; exact hok), Nat.mul_one, Nat.mul_one, List.getElem?_take] at hz
              split at hz
              · rwa [List.getElem?_drop] at hz
              · simp at hz
            rw [← e1, List.getElem?_take] at hz2
            split at hz2
            · rw [List.getElem?_drop] at hz2
              rw [Nat.add_assoc]; exact hz2
            · simp at hz2
          · refine ⟨a, 0, ?_, by omega, by simp, .inl g1⟩
            rw [g1]
        · simp at h
      · simp at h
    · simp at h
  · simp at h

theorem aFrz_congr (op : Op) (ev ev' : Operand → AV) (H H' : Heap) (nid : Nat) (he : ∀ x ∈ op.operands, ev' x = ev x) (hr : ∀ id ∈ readsE ev op nid (slots G op), H'[id]? = H[id]?) : aFrz G op ev' H' = aFrz G op ev H := by
  have opt : ∀ o : Option Operand, (∀ x ∈ o, ev' x = ev x) → optI ev' o = optI ev o := by
    intro o ho
    cases o with
    | none => rfl
    | some x => simp only [optI, ho x rfl]
  cases op with
  | slice t x lo hi mx =>
    cases mx with
    | some m => rfl
    | none =>
      have hx : ev' x = ev x := he x (by simp [Op.operands])
      have hlo := opt lo fun y hy => he y (by simp [Op.operands]; rcases lo with _ | z <;> simp_all)
      have hhi := opt hi fun y hy => he y (by simp [Op.operands]; rcases hi with _ | z <;> simp_all)
      have hs : ∀ id ∈ refId (ev x), H'[id]? = H[id]? := fun id hid => hr id (by simp only [readsE]; exact List.mem_append_left _ (mem_refIds (by simp [Op.operands]) hid))
      simp only [aFrz, hx, hlo, hhi]
      split
      · rename_i ti lo' hi' id off h1 h2 h3 h4
        rw [hs id (by rw [h4]; simp [refId])]
        have := aSl_congr (G := G) (ti := ti) (x := .ptr id off) (lo := lo') (hi := hi') (H := H) (H' := H') (by rw [← h4]; exact hs)
        rw [this]
      · rfl
  | _ => rfl
end
/-- Operations on slices; parts of arrays of bytes are written no more. -/
def ROps.frz {P : Program} (G : Env P) : ROps G where
  f := fun op ev H nid => match aFrz G op ev H with
    | some E => some E
    | none => slOps G op ev H nid
  congr := fun op ev ev' H H' nid he hr => by rw [aFrz_congr op ev ev' H H' nid he hr, slOps_congr op ev ev' H H' nid he hr]
  sound := fun _ _ _ _ c ev e r o nid E v u h hh => by
    split at h
    · rename_i E' hE
      simp only [Option.some.injEq] at h
      subst h
      exact aFrz_sound c ev e r o E' v u hE hh
    · exact slOps_sound c ev e r o nid E v u h hh
end
end Go.V

/- The abstract layer (third state), part L: rows in what is put together are as long as they say. -/
set_option linter.unusedSimpArgs false
set_option linter.unusedVariables false
namespace Go.V
open Go

/-- Rows are as long as they say, in what is put together too. -/
def lenAll : AV → Prop
  | .agg l => ∀ a ∈ l, lenOk a
  | a => lenOk a

theorem ite2_true {x y : Prop} : ite2 true x y = x := rfl
theorem ite2_false {x y : Prop} : ite2 false x y = y := rfl

section
variable {P : Program} {G : Env P}
theorem R_lenOk {ρ : Rho} {I : Imm} {w : World} {a : AV} {xs : List Value} (h : R ρ I w a xs) : lenOk a := by
  cases a <;> first | trivial | exact h.2
theorem RL_lenOk {ρ : Rho} {I : Imm} {w : World} : ∀ {l : List AV} {xs : List Value}, RL ρ I w l xs → ∀ a ∈ l, lenOk a
  | [], _, _, a, ha => by simp at ha
  | b :: bs, _, ⟨ys, zs, h0, h1, h2⟩, a, ha => by
    rcases List.mem_cons.1 ha with rfl | ha
    · exact R_lenOk h1
    · exact RL_lenOk h2 a ha
theorem rel_lenAll {ρ : Rho} {I : Imm} {w : World} {a : AV} {v : Value} (h : rel ρ I w a v) : lenAll a := by
  cases a <;> first | trivial | (obtain ⟨_, _, _, h⟩ := h; exact h) | (obtain ⟨_, _, h⟩ := h; exact RL_lenOk h)
theorem RV_lenAll {ρ : Rho} {I : Imm} {w : World} : ∀ {l : List AV} {vs : List Value}, RV ρ I w l vs → ∀ a ∈ l, lenAll a
  | [], _, _, a, ha => by simp at ha
  | b :: bs, _, ⟨x, xs, h0, h1, h2⟩, a, ha => by
    rcases List.mem_cons.1 ha with rfl | ha
    · exact rel_lenAll h1
    · exact RV_lenAll h2 a ha
/-- Nothing is to be shown where rows are not as long as they say. -/
theorem HCall.of_lens {f : FuncId} {args : List AV} {out : Out} (hp : pureL args = true) (ho : out.okB = true) (h : (∀ a ∈ args, lenAll a) → HCall G f args out) : HCall G f args out := by
  refine ⟨hp, ho, fun ρ I w vs c r => ?_⟩
  exact (h (RV_lenAll r)).call ρ I w vs c r
theorem HCall.alt_l {f : FuncId} {args : List AV} {b : Bool} {x y : Out} (hb : b = true) (hy : y.okB = true) (h : HCall G f args x) : HCall G f args (.alt b x y) := by
  subst hb
  exact ⟨h.pa, by show (x.okB && y.okB) = true; rw [h.po, hy]; rfl, h.call⟩
theorem HCall.alt_r {f : FuncId} {args : List AV} {b : Bool} {x y : Out} (hb : b = false) (hx : x.okB = true) (h : HCall G f args y) : HCall G f args (.alt b x y) := by
  subst hb
  exact ⟨h.pa, by show (x.okB && y.okB) = true; rw [h.po, hx]; rfl, h.call⟩
end
end Go.V

/- Common bounds of loops. -/
set_option linter.unusedSimpArgs false
set_option linter.unusedVariables false
namespace Go.Inv
open Go Go.V
/-- A counter that goes up to a number that is known at the loop's beginning. -/
def upTo (g : List AV) (i : Nat) : Prop := match g with
  | [.int _ n] => (i : Int) ≤ n
  | _ => False
def up (i : Nat) : Nat := 9223372036854775808 - i
theorem upTo_int {k : IntKind} {n : Int} {i : Nat} : upTo [.int k n] i ↔ (i : Int) ≤ n := Iff.rfl
theorem up_lt {i : Nat} (h : i < 9223372036854775807) : up (i + 1) < up i := by unfold up; omega
/-- So many more rounds, counted by an int from nought. -/
def count (keep : List Nat) (n j : Nat) : LPlan := .rel keep [n] Nat upTo up (fun i => [(j, .int .i64 (i : Nat))]) (fun _ => [])
end Go.Inv
