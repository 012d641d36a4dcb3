import Derived.Test.YtehaohfglolljaaGreatDoorZzae
import Derived.ScopeJumps
set_option linter.unusedSimpArgs false
set_option linter.unusedVariables false
namespace Go.V
open Go
noncomputable section
theorem z16x {a b : AV} {k : Prop} (h : leA a b k) : (∀ ρ I w v, rel ρ I w a v → rel ρ I w b v) ∧ k := by
 unfold leA at h
 split at h
 ·exact ⟨fun _ _ _ _ _ => zf9, h⟩
 ·split at h
  ·obtain ⟨h1, h2⟩ := zd.1 h;simp only [Bool.and_eq_true, beq_iff_eq] at h1;obtain ⟨rfl, rfl⟩ := h1;exact ⟨fun _ _ _ _ h => h, h2⟩
  ·exact h.elim
 ·split at h
  ·obtain ⟨h1, rfl, h2, h3⟩ := zd.1 h;simp only [Bool.and_eq_true, beq_iff_eq] at h1;obtain ⟨rfl, rfl⟩ := h1;refine ⟨fun ρ I w v h => ?_, h3⟩
   obtain ⟨k1, k2⟩ := z2r.1 h;obtain ⟨k3, vs, k4, k5, k6⟩ := z1j.1 k1;exact z2r.2 ⟨z1j.2 ⟨fun i hi => by rw [← h2 i hi]; exact k3 i hi, vs, k4, fun i hi => by rw [← h2 i hi]; exact k5 i hi, k6⟩, k2⟩
  ·exact h.elim
 ·obtain ⟨rfl, h2⟩ := h;exact ⟨fun _ _ _ _ h => h, h2⟩
theorem zqf : ∀ {t T : List AV} {k : Prop}, leT t T k → (∀ ρ I w vs, RV ρ I w t vs → RV ρ I w T vs) ∧ k
 | [], [], k, h => ⟨fun _ _ _ _ h => h, h⟩
 | a :: as, b :: bs, k, h => by
  obtain ⟨h1, h2⟩ := z16x (k := leT as bs k) h;obtain ⟨h3, h4⟩ := zqf h2;refine ⟨fun ρ I w vs r => ?_, h4⟩
  obtain ⟨x, xs, rfl, k1, k2⟩ := zr.1 r;exact zr.2 ⟨x, xs, rfl, h1 _ _ _ _ k1, h3 _ _ _ _ k2⟩
 | [], _ :: _, k, h => h.elim
 | _ :: _, [], k, h => h.elim
theorem zqx : ∀ {c d : List AV} {k : Prop}, leC c d k → (∀ ρ I w vs, RL ρ I w c vs → RL ρ I w d vs) ∧ k
 | [], [], k, h => ⟨fun _ _ _ _ h => h, h⟩
 | a :: as, b :: bs, k, h => by
  have key : ∀ (hab : ∀ ρ I w ys, R ρ I w a ys → R ρ I w b ys), leC as bs k → (∀ ρ I w vs, RL ρ I w (a :: as) vs → RL ρ I w (b :: bs) vs) ∧ k := by
   intro hab h2;obtain ⟨h3, h4⟩ := zqx h2;refine ⟨fun ρ I w vs r => ?_, h4⟩
   obtain ⟨ys, zs, rfl, k1, k2⟩ := z12.1 r;exact z12.2 ⟨ys, zs, rfl, hab _ _ _ _ k1, h3 _ _ _ _ k2⟩
  unfold leC at h
  split at h
  ·obtain ⟨h1, h2⟩ := zd.1 h;refine key (fun ρ I w ys r => ?_) h2
   have := z3o _ _ r;rw [beq_iff_eq] at h1;rw [h1] at this
   match ys, this with
   | [y], _ => exact ⟨y, rfl⟩
  ·split at h
   ·obtain ⟨h1, h2⟩ := zd.1 h;simp only [Bool.and_eq_true, beq_iff_eq] at h1;obtain ⟨rfl, rfl⟩ := h1;exact key (fun _ _ _ _ h => h) h2
   ·exact h.elim
  ·obtain ⟨rfl, h2⟩ := h;exact key (fun _ _ _ _ h => h) h2
 | [], _ :: _, k, h => h.elim
 | _ :: _, [], k, h => h.elim
def zod (e e' : Ent) : Prop :=
 e' = .dead ∨ (∃ c c' f, e = .blk c f ∧ e' = .blk c' f ∧ ∀ ρ I w vs, RL ρ I w c vs → RL ρ I w c' vs) ∨ (e = e' ∧ e ≠ .res)
theorem z14w {e e' : Ent} {k : Prop} (h : leE e e' k) : zod e e' ∧ k := by
 unfold leE at h
 split at h
 ·exact ⟨.inl rfl, h⟩
 ·split at h
  ·obtain ⟨h1, h2⟩ := zd.1 h;obtain ⟨h3, h4⟩ := zqx h2;cases zd5 h1;exact ⟨.inr (.inl ⟨_, _, _, rfl, rfl, fun ρ I w vs r => (z7s _ vs).2 (h3 ρ I w vs ((z7s _ vs).1 r))⟩), h4⟩
  ·exact h.elim
 ·split at h
  ·obtain ⟨h1, rfl, h2⟩ := zd.1 h;cases zd5 h1;exact ⟨.inr (.inr ⟨rfl, by simp⟩), h2⟩
  ·exact h.elim
 ·split at h
  ·obtain ⟨h1, rfl, h2⟩ := zd.1 h;simp only [Bool.and_eq_true, beq_iff_eq] at h1;obtain ⟨rfl, h1⟩ := h1;cases zd5 h1;exact ⟨.inr (.inr ⟨rfl, by simp⟩), h2⟩
  ·exact h.elim
 ·split at h
  ·obtain ⟨h1, rfl, h2⟩ := zd.1 h;simp only [beq_iff_eq] at h1;subst h1;exact ⟨.inr (.inr ⟨rfl, by simp⟩), h2⟩
  ·exact h.elim
 ·exact h.elim
theorem zr6 : ∀ {H H' : Heap} {k : Prop}, leH H H' k → (H.length = H'.length ∧ ∀ (i : Nat) (e e' : Ent), H[i]? = some e → H'[i]? = some e' → zod e e') ∧ k
 | [], [], k, h => ⟨⟨rfl, fun _ _ _ h => by simp at h⟩, h⟩
 | a :: as, b :: bs, k, h => by
  obtain ⟨h1, h2⟩ := z14w (k := leH as bs k) h;obtain ⟨⟨h3, h5⟩, h4⟩ := zr6 h2;refine ⟨⟨by simp [h3], fun i e e' g g' => ?_⟩, h4⟩
  cases i with
  | zero => simp at g g'; subst g; subst g'; exact h1
  | succ i => exact h5 i e e' (by simpa using g) (by simpa using g')
 | [], _ :: _, k, h => h.elim
 | _ :: _, [], k, h => h.elim
section
variable {g : Nat → Option (List AV)} {ρ : Rho} {I : Imm} {H : Heap} {w : World}
theorem z14l (c : Conc g ρ I H w) {H' : Heap} (hl : H.length = H'.length) (hw : ∀ (i : Nat) (e e' : Ent), H[i]? = some e → H'[i]? = some e' → zod e e') :
  Conc g ρ I H' w ∧ ∀ {ρ0 : Rho} {I0 : Imm} {H0 : Heap} {w0 : World}, Good ρ0 I0 H0 w0 ρ I H w → Good ρ0 I0 H0 w0 ρ I H' w := by
 have back : ∀ (i : Nat) (e' : Ent), H'[i]? = some e' → ∃ e, H[i]? = some e ∧ zod e e' := by
  intro i e' h;have hi := (List.getElem?_eq_some_iff.1 h).1;exact ⟨H[i], by simp [hl, hi], hw i _ e' (by simp [hl, hi]) h⟩
 have live : ∀ (i : Nat) (e' : Ent), H'[i]? = some e' → e'.live = true → ∃ e, H[i]? = some e ∧ e.live = true ∧ e.frz = e'.frz ∧ (e'.grows = true → e = e') := by
  intro i e' h hl;obtain ⟨e, h1, h2⟩ := back i e' h;rcases h2 with rfl | ⟨cs, c', f, rfl, rfl, _⟩ | ⟨rfl, _⟩
  ·simp [Ent.live] at hl
  ·exact ⟨_, h1, rfl, rfl, fun h => by simp [Ent.grows] at h⟩
  ·exact ⟨e, h1, hl, rfl, fun _ => rfl⟩
 have gl : ∀ (e : Ent), e.grows = true → e.live = true := by intro e h; cases e <;> simp_all [Ent.grows, Ent.live]
 have mutb : ∀ b o, Mut ρ H' b o → Mut ρ H b o := by
  rintro b o ⟨i, e, h1, h2, h3, h4⟩;obtain ⟨e0, k1, k2, k3, _⟩ := live i e h1 h2;exact ⟨i, e0, k1, k2, h3, k3 ▸ h4⟩
 refine ⟨⟨fun id h => hl ▸ c.dom id h, ?_, c.blt, ?_, ?_, ?_, fun b o h => ⟨(c.imm b o h).1, fun hm => (c.imm b o h).2 (mutb b o hm)⟩, c.glob⟩, ?_⟩
 ·intro id h;obtain ⟨e, h1, h2⟩ := back id _ h;rcases h2 with h2 | ⟨_, _, _, _, h2, _⟩ | ⟨rfl, h2⟩
  ·simp at h2
  ·simp at h2
  ·exact absurd rfl h2
 ·intro i j b e e' hi l1 hj l2 hbi hbj;obtain ⟨e1, k1, k2, _⟩ := live i e hi l1;obtain ⟨e2, k3, k4, _⟩ := live j e' hj l2;exact c.inj i j b e1 e2 k1 k2 k3 k4 hbi hbj
 ·intro id cs f h;obtain ⟨e, h1, h2⟩ := back id _ h;rcases h2 with h2 | ⟨cs0, c', f0, rfl, h2, h3⟩ | ⟨rfl, _⟩
  ·simp at h2
  ·simp only [Ent.blk.injEq] at h2;obtain ⟨rfl, rfl⟩ := h2;obtain ⟨b, el, fr, us, q1, q2, q3, q4⟩ := c.blk id cs0 f h1;exact ⟨b, el, fr, us, q1, q2, h3 _ _ _ _ q3, q4⟩
  ·exact c.blk id cs f h1
 ·intro id e h he;obtain ⟨e0, k1, _, _, k4⟩ := live id e h (gl e he);cases k4 he;exact c.grow id _ k1 he
 ·intro ρ0 I0 H0 w0 gd;refine ⟨gd.ext, fun id x h ⟨e, h1, h2⟩ => ?_, by rw [← hl]; exact gd.len, gd.imm, gd.imm', gd.os, gd.tape, gd.out, gd.size, gd.cell, gd.block, gd.bs, fun b o hb h => gd.wrt b o hb (mutb b o h), fun b hb ⟨i, e, h1, h2, h3⟩ => ?_⟩
  ·obtain ⟨e0, k1, _, _, k4⟩ := live id e h1 (gl e h2);cases k4 h2;exact gd.kp id x h ⟨_, k1, h2⟩
  ·obtain ⟨e0, k1, k2, _⟩ := live i e h1 h2;exact gd.own b hb ⟨i, e0, k1, k2, h3⟩
def z7l (n : Nat) (ρ : Rho) : Rho := fun id => if id < n then ρ id else none
theorem zl6 {n : Nat} {T : List AV} {H : Heap} (h : z98 n T H = true) : z2s n T = true ∧ ∀ e ∈ H, e ≠ .res → z6h n e = true := by
 simp only [z98, Bool.and_eq_true, List.all_eq_true] at h;refine ⟨h.1, fun e he hne => ?_⟩
 have := h.2 e he;cases e <;> simp_all [z6h]
theorem z7n (c : Conc g ρ I H w) (n : Nat) (hr : ∀ e ∈ H.take n, e ≠ .res → z6h n e = true) :
  Conc g (z7l n ρ) I (H.take n) w ∧ ∀ {ρ0 : Rho} {I0 : Imm} {H0 : Heap} {w0 : World}, Good ρ0 I0 H0 w0 ρ I H w → (∀ id, ρ0 id ≠ none → id < n) → H0.length ≤ n → Good ρ0 I0 H0 w0 (z7l n ρ) I (H.take n) w := by
 have up : ∀ (i : Nat) (e : Ent), (H.take n)[i]? = some e → H[i]? = some e ∧ i < n := by
  intro i e h;rw [List.getElem?_take] at h
  split at h
  ·exact ⟨h, by assumption⟩
  ·simp at h
 have ro : ∀ i, i < n → z7l n ρ i = ρ i := fun i h => by simp [z7l, h]
 have mutb : ∀ b o, Mut (z7l n ρ) (H.take n) b o → Mut ρ H b o := by
  rintro b o ⟨i, e, h1, h2, h3, h4⟩;obtain ⟨k1, k2⟩ := up i e h1;exact ⟨i, e, k1, h2, ro i k2 ▸ h3, h4⟩
 refine ⟨⟨?_, ?_, ?_, ?_, ?_, ?_, fun b o h => ⟨(c.imm b o h).1, fun hm => (c.imm b o h).2 (mutb b o hm)⟩, c.glob⟩, ?_⟩
 ·intro id h
  by_cases e : id < n
  ·rw [ro id e] at h; have := c.dom id h; simp; omega
  ·simp [z7l, e] at h
 ·intro id h;obtain ⟨k1, k2⟩ := up id _ h;rw [ro id k2]; exact c.res id k1
 ·intro id b h
  by_cases e : id < n
  ·rw [ro id e] at h; exact c.blt id b h
  ·simp [z7l, e] at h
 ·intro i j b e e' hi l1 hj l2 hbi hbj;obtain ⟨k1, k2⟩ := up i e hi;obtain ⟨k3, k4⟩ := up j e' hj;exact c.inj i j b e e' k1 l1 k3 l2 (ro i k2 ▸ hbi) (ro j k4 ▸ hbj)
 ·intro id cs f h;obtain ⟨k1, k2⟩ := up id _ h;obtain ⟨b, el, fr, us, q1, q2, q3, q4⟩ := c.blk id cs f k1;exact ⟨b, el, fr, us, by rw [ro id k2]; exact q1, q2, z3k ro cs us (hr _ (List.mem_of_getElem? h) (by simp)) q3, q4⟩
 ·intro id e h he;obtain ⟨k1, k2⟩ := up id _ h;obtain ⟨q, h'⟩ := c.grow id e k1 he;refine ⟨q, ?_⟩;rcases h' with ⟨q1, q2⟩ | ⟨b, el, fr, us, rest, q1, q2, q3, q4⟩
  ·exact .inl ⟨by rw [ro id k2]; exact q1, q2⟩
  ·refine .inr ⟨b, el, fr, us, rest, by rw [ro id k2]; exact q1, q2, z3k ro e.cells us ?_ q3, q4⟩
   have := hr _ (List.mem_of_getElem? h) (by rintro rfl; simp [Ent.grows] at he)
   cases e <;> simp_all [z6h, Ent.cells, Ent.grows, z2s, z35]
 ·intro ρ0 I0 H0 w0 gd hd hle;refine ⟨fun id x h => ?_, fun id x h ⟨e, h1, h2⟩ => gd.kp id x h ⟨e, (up id e h1).1, h2⟩, ?_, gd.imm, gd.imm', gd.os, gd.tape, gd.out, gd.size, gd.cell, gd.block, gd.bs, fun b o hb h => gd.wrt b o hb (mutb b o h),
   fun b hb ⟨i, e, h1, h2, h3⟩ => ?_⟩
  ·rw [ro id (hd id (by simp [h]))]; exact gd.ext id x h
  ·have := gd.len; simp; omega
  ·obtain ⟨k1, k2⟩ := up i e h1;exact gd.own b hb ⟨i, e, k1, h2, ro i k2 ▸ h3⟩
theorem z175 (c : Conc g ρ I H w) (ids : List Nat) (hd : ids.Nodup) (hr : ∀ i ∈ ids, ∀ e, H[i]? = some e → e.live = true ∧ z6h 0 e = true) (hin : ∀ i ∈ ids, i < H.length) :
  ∃ ρ' : Rho, (∀ (k i : Nat), ids[k]? = some i → ρ' k = ρ i) ∧ Conc g ρ' I (ids.map fun i => H.getD i .dead) w ∧ ∀ {I0 : Imm} {w0 : World}, Good (fun _ => none) I0 [] w0 ρ I H w → Good (fun _ => none) I0 [] w0 ρ' I (ids.map fun i => H.getD i .dead) w := by
 let ρ' : Rho := fun k => match ids[k]? with
  | some i => ρ i
  | none => none
 have hρ : ∀ (k i : Nat), ids[k]? = some i → ρ' k = ρ i := fun k i h => by show (match ids[k]? with | some i => ρ i | none => none) = _; rw [h]
 have hρn : ∀ k, ids[k]? = none → ρ' k = none := fun k h => by show (match ids[k]? with | some i => ρ i | none => none) = _; rw [h]
 have up : ∀ (k : Nat) (e : Ent), (ids.map fun i => H.getD i .dead)[k]? = some e → ∃ i, ids[k]? = some i ∧ H[i]? = some e := by
  intro k e h;rw [List.getElem?_map] at h;cases hk : ids[k]? with
  | none => simp [hk] at h
  | some i =>
   have := hin i (List.mem_of_getElem? hk);simp [hk, this] at h;exact ⟨i, rfl, by simp [this, h]⟩
 have mutb : ∀ b o, Mut ρ' (ids.map fun i => H.getD i .dead) b o → Mut ρ H b o := by
  rintro b o ⟨k, e, h1, h2, h3, h4⟩;obtain ⟨i, k1, k2⟩ := up k e h1;exact ⟨i, e, k2, h2, hρ k i k1 ▸ h3, h4⟩
 refine ⟨ρ', hρ, ⟨?_, ?_, ?_, ?_, ?_, ?_, fun b o h => ⟨(c.imm b o h).1, fun hm => (c.imm b o h).2 (mutb b o hm)⟩, c.glob⟩, ?_⟩
 ·intro k h;cases hk : ids[k]? with
  | none => exact absurd (hρn k hk) h
  | some i => simpa using (List.getElem?_eq_some_iff.1 hk).1
 ·intro k h;obtain ⟨i, k1, k2⟩ := up k _ h;have := (hr i (List.mem_of_getElem? k1) _ k2).1;simp [Ent.live] at this
 ·intro k b h;cases hk : ids[k]? with
  | none => rw [hρn k hk] at h; simp at h
  | some i => rw [hρ k i hk] at h; exact c.blt i b h
 ·intro k l b e e' hi l1 hj l2 hbi hbj;obtain ⟨i, k1, k2⟩ := up k e hi;obtain ⟨j, k3, k4⟩ := up l e' hj;have := c.inj i j b e e' k2 l1 k4 l2 (hρ k i k1 ▸ hbi) (hρ l j k3 ▸ hbj);subst this;exact (List.getElem?_inj (List.getElem?_eq_some_iff.1 k1).1 hd).1 (k1.trans k3.symm)
 ·intro k cs f h;obtain ⟨i, k1, k2⟩ := up k _ h;obtain ⟨b, el, fr, us, q1, q2, q3, q4⟩ := c.blk i cs f k2;exact ⟨b, el, fr, us, by rw [hρ k i k1]; exact q1, q2, z3k (n := 0) (fun _ h => by omega) cs us (hr i (List.mem_of_getElem? k1) _ k2).2 q3, q4⟩
 ·intro k e h he;obtain ⟨i, k1, k2⟩ := up k _ h;obtain ⟨q, h'⟩ := c.grow i e k2 he;refine ⟨q, ?_⟩;rcases h' with ⟨q1, q2⟩ | ⟨b, el, fr, us, rest, q1, q2, q3, q4⟩
  ·exact .inl ⟨by rw [hρ k i k1]; exact q1, q2⟩
  ·refine .inr ⟨b, el, fr, us, rest, by rw [hρ k i k1]; exact q1, q2, z3k (n := 0) (fun _ h => by omega) e.cells us ?_ q3, q4⟩
   have := (hr i (List.mem_of_getElem? k1) _ k2).2;cases e <;> simp_all [z6h, Ent.cells, Ent.grows, z2s, z35]
 ·intro I0 w0 gd;refine ⟨fun _ _ h => by simp at h, fun _ _ h => by simp at h, by simp, gd.imm, gd.imm', gd.os, gd.tape, gd.out, gd.size, gd.cell, gd.block, gd.bs, fun b o hb h => gd.wrt b o hb (mutb b o h), fun b hb ⟨k, e, h1, h2, h3⟩ => ?_⟩
  obtain ⟨i, k1, k2⟩ := up k e h1;exact gd.own b hb ⟨i, e, k2, h2, hρ k i k1 ▸ h3⟩
end
section
variable {P : Program} {G : Env P} {ρ : Rho} {I : Imm} {H : Heap} {w : World}
theorem zqa {n : Nat} {s : St} {T : List AV} {H' : Heap} (h : leS n s T H') (c : Conc G.g ρ I s.H w) {a : Act} (r : RelT ρ I w s.t a) (hr : z98 n T H' = true) {ρ0 : Rho} {I0 : Imm} {H0 : Heap} {w0 : World}
  (gd : Good ρ0 I0 H0 w0 ρ I s.H w) (hd : ∀ id, ρ0 id ≠ none → id < n) (hle : H0.length ≤ n) (hl' : H'.length = n) : ∃ ρ', Good ρ0 I0 H0 w0 ρ' I H' w ∧ Conc G.g ρ' I H' w ∧ RelT ρ' I w T a := by
 obtain ⟨h1, h2⟩ := zqf h;obtain ⟨⟨h3, h4⟩, _⟩ := zr6 h2;obtain ⟨hrT, hrH⟩ := zl6 hr;have hlen : n ≤ s.H.length := by rw [List.length_take] at h3; omega
 have hw : ∀ (i : Nat) (e e' : Ent), s.H[i]? = some e → (H' ++ (s.H.drop n).map fun _ => Ent.dead)[i]? = some e' → zod e e' := by
  intro i e e' k1 k2;rcases Nat.lt_or_ge i n with hi | hi
  ·rw [List.getElem?_append_left (by omega)] at k2
   refine h4 i e e' ?_ k2;rw [List.getElem?_take, if_pos hi]; exact k1
  ·rw [List.getElem?_append_right (by omega), List.getElem?_map] at k2
   left
   cases hq : (List.drop n s.H)[i - H'.length]? <;> simp [hq] at k2
   exact k2.symm
 obtain ⟨c1, g1⟩ := z14l c (by simp; omega) hw
 have ht : (H' ++ (s.H.drop n).map fun _ => Ent.dead).take n = H' := by rw [List.take_append, List.take_of_length_le (by omega), hl']; simp
 obtain ⟨c2, g2⟩ := z7n c1 n (fun e he hne => hrH e (by rw [ht] at he; exact he) hne)
 rw [ht] at c2 g2;exact ⟨z7l n ρ, g2 (g1 gd) hd hle, c2, zcs (fun i hi => by simp [z7l, hi]) _ _ hrT (h1 _ _ _ _ r.tr), r.defers⟩
theorem zxt {c : Code} {F : (Exit → St → Prop) → St → Prop} (hF : ∀ Q s, F Q s → Tri G c Q s) {Q : Exit → St → Prop} (n : Nat) {s : St} (h : zsl F n Q s) : Tri G (.loop c) Q s :=
 Tri.loop (fun m s => zsl F m Q s) n h fun m s hm => by
  cases m with
  | zero => exact hm.elim
  | succ m =>
   refine (hF _ _ hm).mono fun e s' h => ?_
   cases e with
   | normal => exact ⟨m, Nat.lt_succ_self m, h⟩
   | _ => exact h
theorem zbs {c : Code} {F : (Exit → St → Prop) → St → Prop} (hF : ∀ Q s, F Q s → Tri G c Q s) {Q : Exit → St → Prop} {α : Type} {ok : α → Prop} {m : α → Nat} {T : α → List AV} {H : α → Heap} {s : St} (h : zk4 (.inv α ok m T H) F Q s) : Tri G (.loop c) Q s := by
 obtain ⟨⟨a0, ho, hle⟩, hround⟩ := h;intro ρ I a w hc hr;have hdom : ∀ id, ρ id ≠ none → id < s.H.length := hc.dom;simp only [z111] at hround;obtain ⟨hk0, hF0⟩ := zd.1 (hround a0 ho);simp only [Bool.and_eq_true, beq_iff_eq] at hk0;refine zlt (fun n a' w' => ∃ (b : α) (ρ' : Rho) (I' : Imm), ok b ∧ m b = n ∧ Good ρ I s.H w ρ' I' (H b) w' ∧ Conc G.g ρ' I' (H b) w' ∧ RelT ρ' I' w' (T b) a') (m a0) ?_ ?_
 ·obtain ⟨ρ', g1, g2, g3⟩ := zqa hle hc hr hk0.2 (Good.refl _ _ _ _) hdom (Nat.le_refl _) hk0.1;exact ⟨a0, ρ', I, ho, rfl, g1, g2, g3⟩
 ·rintro n a1 w1 ⟨b, ρ1, I1, hob, rfl, hg, hC, hR⟩;obtain ⟨hk1, hF1⟩ := zd.1 (hround b hob);refine wp_mono (hF _ _ hF1 ρ1 I1 a1 w1 hC hR) ?_;rintro e a' w' ⟨ρ', I', s', k1, k2, k3, k4⟩;cases e with
  | normal =>
   obtain ⟨b', ⟨hm, hob'⟩, hle'⟩ := k4;obtain ⟨hk2, _⟩ := zd.1 (hround b' hob');simp only [Bool.and_eq_true, beq_iff_eq] at hk2;obtain ⟨ρ2, g1, g2, g3⟩ := zqa hle' k2 k3 hk2.2 (hg.trans k1) hdom (Nat.le_refl _) hk2.1;exact ⟨m b', hm, b', ρ2, I', hob', rfl, g1, g2, g3⟩
  | _ => exact ⟨ρ', I', s', hg.trans k1, k2, k3, k4⟩
theorem ztt {c : Code} {F : (Exit → St → Prop) → St → Prop} (hF : ∀ Q s, F Q s → Tri G c Q s) {Q : Exit → St → Prop} {keep gs : List Nat} {α : Type} {ok : List AV → α → Prop} {m : α → Nat} {ds : St → List AV}
  {T : Nat → α → List (Nat × AV)} {H : Nat → α → List (Nat × Ent)} {X : α → List Ent} {s : St} (h : zk4 (.mv keep gs α ok m ds T H X) F Q s) : Tri G (.loop c) Q s := by
 obtain ⟨⟨a0, ho, hle⟩, hround⟩ := h;intro ρ I a w hc hr;have hdom : ∀ id, ρ id ≠ none → id < s.H.length := hc.dom;simp only [z111] at hround;obtain ⟨hk0, hF0⟩ := zd.1 (hround a0 ho);simp only [beq_iff_eq] at hk0;refine zlt (fun n a' w' => ∃ (b : α) (ρ' : Rho) (I' : Imm), ok (gs.map fun i => s.t.getD i .any) b ∧ m b = n ∧ Good ρ I s.H w ρ' I' (z89 s.H (H s.H.length b) ++ X b) w' ∧ Conc G.g ρ' I' (z89 s.H (H s.H.length b) ++ X b) w' ∧ RelT ρ' I' w' (zbr (z8j keep 0 s.t) (T s.H.length b)) a') (m a0) ?_ ?_
 ·obtain ⟨ρ', g1, g2, g3⟩ := zdt hle hc hr (Good.refl _ _ _ _) hdom (Nat.le_refl _) hk0 (Nat.le_refl _);exact ⟨a0, ρ', I, ho, rfl, g1, g2, g3⟩
 ·rintro n a1 w1 ⟨b, ρ1, I1, hob, rfl, hg, hC, hR⟩;obtain ⟨hk1, hF1⟩ := zd.1 (hround b hob);refine wp_mono (hF _ _ hF1 ρ1 I1 a1 w1 hC hR) ?_;rintro e a' w' ⟨ρ', I', s', k1, k2, k3, k4⟩;cases e with
  | normal =>
   obtain ⟨b', ⟨hm, hob'⟩, hle'⟩ := k4;obtain ⟨hlen, hle'⟩ := zd.1 hle';obtain ⟨hk2, _⟩ := zd.1 (hround b' hob');simp only [beq_iff_eq] at hk2;obtain ⟨ρ2, g1, g2, g3⟩ := zdt hle' k2 k3 (hg.trans k1) hdom (Nat.le_refl _) hk2 (zh.1 hlen);exact ⟨m b', hm, b', ρ2, I', hob', rfl, g1, g2, g3⟩
  | _ => exact ⟨ρ', I', s', hg.trans k1, k2, k3, k4⟩
theorem z16n {l : Nat} {x : Code} {Q : Exit → Act → World → Prop} (J : Nat → Act → World → Prop) (n : Nat) {a : Act} {w : World} (h0 : J n a w)
  (round : ∀ n a w, J n a w → x.wp P (Exit.jump l (fun a' w' => ∃ m, m < n ∧ J m a' w') Q) a w) : (Code.scope (.seq (.label l) x)).wp P Q a w := by
 classical
 have least : ∀ n a w, J n a w → ∃ m, J m a w ∧ ∀ k, J k a w → m ≤ k := by
  intro n a w
  induction n using Nat.strongRecOn with
  | _ n ih =>
   intro h
   by_cases hk : ∃ k, k < n ∧ J k a w
   ·obtain ⟨k, h1, h2⟩ := hk;exact ih k h1 h2
   ·exact ⟨n, h, fun k h2 => Nat.le_of_not_lt fun h3 => hk ⟨k, h3, h2⟩⟩
 let μ : Act → World → Nat := fun a w => if h : ∃ m, J m a w ∧ ∀ k, J k a w → m ≤ k then h.choose else 0
 have μs : ∀ a w, (∃ n, J n a w) → J (μ a w) a w := by
  rintro a w ⟨n, h⟩;show J (if h : ∃ m, J m a w ∧ ∀ k, J k a w → m ≤ k then h.choose else 0) a w
  rw [dif_pos (least n a w h)]; exact (least n a w h).choose_spec.1
 have μl : ∀ n a w, J n a w → μ a w ≤ n := by
  intro n a w h;show (if h : ∃ m, J m a w ∧ ∀ k, J k a w → m ≤ k then h.choose else 0) ≤ n
  rw [dif_pos (least n a w h)]; exact (least n a w h).choose_spec.2 n h
 refine wp_scope_jumps l (fun a w => ∃ n, J n a w) μ (rest := .seq .skip x) (by simp [findLabel]) ?_ ?_
 ·refine wp_seq (wp_label ?_);refine wp_mono (round n a w h0) ?_;rintro e a' w' k;cases e with
  | goto l' => exact ⟨k.1, k.2.choose, k.2.choose_spec.2⟩
  | _ => exact k
 ·intro a w hJ;refine wp_seq (wp_skip ?_);refine wp_mono (round _ a w (μs a w hJ)) ?_;rintro e a' w' k;cases e with
  | goto l' =>
   obtain ⟨k1, m, k2, k3⟩ := k;exact ⟨k1, ⟨m, k3⟩, Nat.lt_of_le_of_lt (μl m a' w' k3) k2⟩
  | _ => exact k
theorem zrr {l : Nat} {c : Code} {F : (Exit → St → Prop) → St → Prop} (hF : ∀ Z s, F Z s → Tri G c (zk7 l Z) s) {Q : Exit → St → Prop} {keep gs : List Nat} {α : Type} {ok : List AV → α → Prop} {m : α → Nat} {ds : St → List AV}
  {T : Nat → α → List (Nat × AV)} {H : Nat → α → List (Nat × Ent)} {X : α → List Ent} {s : St} (h : zk4 (.mv keep gs α ok m ds T H X) F (zk7 l Q) s) : Tri G (.scope (.seq (.label l) c)) Q s := by
 obtain ⟨⟨a0, ho, hle⟩, hround⟩ := h;intro ρ I a w hc hr;have hdom : ∀ id, ρ id ≠ none → id < s.H.length := hc.dom;simp only [z111] at hround;obtain ⟨hk0, hF0⟩ := zd.1 (hround a0 ho);simp only [beq_iff_eq] at hk0;refine z16n (fun n a' w' => ∃ (b : α) (ρ' : Rho) (I' : Imm), ok (gs.map fun i => s.t.getD i .any) b ∧ m b = n ∧ Good ρ I s.H w ρ' I' (z89 s.H (H s.H.length b) ++ X b) w' ∧ Conc G.g ρ' I' (z89 s.H (H s.H.length b) ++ X b) w' ∧ RelT ρ' I' w' (zbr (z8j keep 0 s.t) (T s.H.length b)) a') (m a0) ?_ ?_
 ·obtain ⟨ρ', g1, g2, g3⟩ := zdt hle hc hr (Good.refl _ _ _ _) hdom (Nat.le_refl _) hk0 (Nat.le_refl _);exact ⟨a0, ρ', I, ho, rfl, g1, g2, g3⟩
 ·rintro n a1 w1 ⟨b, ρ1, I1, hob, rfl, hg, hC, hR⟩;obtain ⟨hk1, hF1⟩ := zd.1 (hround b hob);refine wp_mono (hF _ _ hF1 ρ1 I1 a1 w1 hC hR) ?_;rintro e a' w' ⟨ρ', I', s', k1, k2, k3, k4⟩;cases e with
  | goto l' =>
   have k4 : (bif l' == l then (∃ b' : α, (m b' < m b ∧ ok (gs.map fun i => s.t.getD i .any) b') ∧ cnd (leB s.H.length s'.H.length) (leM s.H.length (ds s') s' (zbr (z8j keep 0 s.t) (T s.H.length b')) (z89 s.H (H s.H.length b')) (X b'))) else False) := k4
   cases hl : l' == l with
   | false => rw [hl] at k4; exact k4.elim
   | true =>
   rw [hl] at k4;obtain ⟨b', ⟨hm, hob'⟩, hle'⟩ := k4;obtain ⟨hlen, hle'⟩ := zd.1 hle';obtain ⟨hk2, _⟩ := zd.1 (hround b' hob');simp only [beq_iff_eq] at hk2;obtain ⟨ρ2, g1, g2, g3⟩ := zdt hle' k2 k3 (hg.trans k1) hdom (Nat.le_refl _) hk2 (zh.1 hlen);exact ⟨by simpa using hl, m b', hm, b', ρ2, I', hob', rfl, g1, g2, g3⟩
  | normal =>
   have k4 : (bif l == l then Q .normal s' else False) := k4;rw [beq_self_eq_true] at k4;exact ⟨ρ', I', s', hg.trans k1, k2, k3, k4⟩
  | _ => exact ⟨ρ', I', s', hg.trans k1, k2, k3, k4⟩
theorem zwi {l : Nat} {c : Code} {F : (Exit → St → Prop) → St → Prop} (hF : ∀ Z s, F Z s → Tri G c (zk7 l Z) s) {Q : Exit → St → Prop} (pl : LPlan) {s : St} (h : z16u pl F (zk7 l Q) s) : Tri G (.scope (.seq (.label l) c)) Q s := by
 cases pl with
 | mv keep gs α ok m ds T H X => exact zrr hF h
 | _ => exact h.elim
theorem zxl {c : Code} {F : (Exit → St → Prop) → St → Prop} (hF : ∀ Q s, F Q s → Tri G c Q s) {Q : Exit → St → Prop} (pl : LPlan) {s : St} (h : zk4 pl F Q s) : Tri G (.loop c) Q s := by
 cases pl with
 | none => exact h.elim
 | unroll n => exact zxt hF n h
 | inv α ok m T H => exact zbs hF h
 | invg α g ok m T H => exact zbs (ok := ok (s.t.getD g .any)) hF h
 | rel keep gs α ok m T H => exact zbs (ok := ok (gs.map fun i => s.t.getD i .any)) (T := fun a => zbr (z8j keep 0 s.t) (T a)) (H := fun a => z89 s.H (H a)) hF h
 | mv keep gs α ok m ds T H X => exact ztt hF h
variable {R : ROps G} {T : Ctr G}
theorem z15z {t : List AV} {c : Operand} {x y : List AV → Prop} (h : z12o t c (evA G t c) x y) : ∃ b, evA G t c = .bool b ∧ (b = true → x t) ∧ (b = false → y t) := by
 unfold z12o at h
 split at h
 ·rename_i b hb;refine ⟨b, hb, ?_⟩
  split at h
  ·rename_i d;obtain ⟨h1, h2⟩ := zq.1 h;have hb : t.getD d .any = .bool b := (z5z _ _).symm.trans hb;exact ⟨fun e => by
    have := h1 e
    rwa [zcf (by rw [hb, e])] at this, fun e => by
    have := h2 e
    rwa [zcf (by rw [hb, e])] at this⟩
  ·exact zq.1 h
 ·exact (zn2 h).elim
theorem z4o {cl : FuncId → List AV → St → Option Tmp → (St → Prop) → Prop} (hcl : ∀ f args s d K, cl f args s d K → zc7 G f args s d K) (L : Nat → LPlan) : ∀ (c : Code) {Q : Exit → St → Prop} {s : St}, aw3 G R T.C cl L c Q s → Tri G c Q s
 | .skip, _, _, h => Tri.skip h
 | .label _, _, _, h => Tri.label h
 | .exit _, _, _, h => Tri.exit h
 | .goto _, _, _, h => Tri.goto h
 | .ret, _, _, h => Tri.ret h
 | .seq x y, Q, s, h => Tri.seq ((z4o hcl L x h).mono fun e s' h' => by
   cases e with
   | normal => exact z4o hcl L y h'
   | _ => exact h')
 | .cond c x y, Q, s, h => by
   obtain ⟨b, h1, h2, h3⟩ := z15z h;exact Tri.cond h1 (fun e => z4o hcl L x (h2 e)) (fun e => z4o hcl L y (h3 e))
 | .block id c, Q, s, h => Tri.block (z4o hcl L c h)
 | .region _ ops false, Q, s, h => Tri.z1mt hcl h
 | .region _ ops true, Q, s, h => Tri.z1nc (R := R) (T := T) hcl h
 | .loop c, Q, s, h => zxl (fun Q s h => z4o hcl L c h) _ h
 | .rangeFunc _ _ _ _, _, _, h => h.elim
 | .scope (.seq (.label l) x), Q, s, h => zwi (fun Z s h => z4o hcl L x h) _ h
 | .scope .skip, _, _, h => h.elim
 | .scope (.region _ _ _), _, _, h => h.elim
 | .scope (.cond _ _ _), _, _, h => h.elim
 | .scope (.block _ _), _, _, h => h.elim
 | .scope (.loop _), _, _, h => h.elim
 | .scope (.rangeFunc _ _ _ _), _, _, h => h.elim
 | .scope (.exit _), _, _, h => h.elim
 | .scope (.scope _), _, _, h => h.elim
 | .scope (.label _), _, _, h => h.elim
 | .scope (.goto _), _, _, h => h.elim
 | .scope .ret, _, _, h => h.elim
 | .scope (.refuse _), _, _, h => h.elim
 | .scope (.seq .skip _), _, _, h => h.elim
 | .scope (.seq (.region _ _ _) _), _, _, h => h.elim
 | .scope (.seq (.seq _ _) _), _, _, h => h.elim
 | .scope (.seq (.cond _ _ _) _), _, _, h => h.elim
 | .scope (.seq (.block _ _) _), _, _, h => h.elim
 | .scope (.seq (.loop _) _), _, _, h => h.elim
 | .scope (.seq (.rangeFunc _ _ _ _) _), _, _, h => h.elim
 | .scope (.seq (.exit _) _), _, _, h => h.elim
 | .scope (.seq (.scope _) _), _, _, h => h.elim
 | .scope (.seq (.goto _) _), _, _, h => h.elim
 | .scope (.seq .ret _), _, _, h => h.elim
 | .scope (.seq (.refuse _) _), _, _, h => h.elim
 | .refuse _, _, _, h => h.elim
theorem z1aj {n : Nat} {v : AV} {x : Value} {H' : Heap} (c : Conc G.g ρ I H' w) (r : rel ρ I w v x) {ρ0 : Rho} {I0 : Imm} {H0 : Heap} {w0 : World} (gd : Good ρ0 I0 H0 w0 ρ I H' w) (hd : ∀ id, ρ0 id ≠ none → id < n) (hn : H0.length = n) :
  ∃ ρ', Good ρ0 I0 H0 w0 ρ' I (gcH n v H') w ∧ Conc G.g ρ' I (gcH n v H') w ∧ rel ρ' I w v x := by
 unfold gcH;rw [z1b1, z15p];cases hb : z35 n v && z98 n [] (H'.take n) with
 | false => exact ⟨ρ, gd, c, r⟩
 | true =>
  simp only [Bool.and_eq_true] at hb;obtain ⟨c2, g2⟩ := z7n c n (zl6 hb.2).2;exact ⟨z7l n ρ, g2 gd hd (by omega), c2, zm0 (fun i hi => by simp [z7l, hi]) hb.1 r⟩
theorem zbz {f : FuncId} {fn : Func} {c : Code} (hf : P.funcs[f]? = some fn) (hb : fn.body = some c) {args : List AV} {H : Heap} {Rel : AV → Heap → Prop}
  (h : Tri G c (aend G fn Rel) ⟨args ++ List.replicate (fn.ntmps - args.length) (.tup []), H⟩) : ACall G f args H Rel := by
 intro ρ I w vs hc hr;have hlen := zf7 hr;refine calls_of_wp hf hb ?_;refine wp_mono (h ρ I _ w hc ⟨?_, rfl⟩) ?_
 ·simp only [Array.toList_append, Array.toList_replicate, List.size_toArray, ← hlen];exact zii hr (zts z8z _)
 ·rintro e a' w' ⟨ρ', I', ⟨t', H'⟩, h1, h2, h3, h4⟩;have key : ∀ (k : endO (z7d G ⟨t', H'⟩ fn.results.toList) fun v => Rel v H'),
    a'.defers = [] ∧ ∃ v, (results fn a'.tmps).run P w' = .ok v w' ∧ ∃ y, Ending.returned v = .returned y ∧ ∃ (ρ'' : Rho) (I'' : Imm) (v : AV) (H'' : Heap), Good ρ I H w ρ'' I'' H'' w' ∧ Conc G.g ρ'' I'' H'' w' ∧ rel ρ'' I'' w' v y ∧ Rel v H'' := by
   intro k;unfold endO at k
   split at k
   ·rename_i c l hl;obtain ⟨k1, k2⟩ := zd.1 k;obtain ⟨x, q1, q2⟩ := zs6 (p := (c, l)) h2 h3 hl k1;exact ⟨h3.defers, x, q1, x, rfl, ρ', I', _, H', h1, h2, q2, k2⟩
   ·exact k.elim
  cases e <;> first | exact key h4 | exact h4.elim
theorem zbv (L : FuncId → Nat → LPlan) : ∀ (n : Nat) (f : FuncId) (args : List AV) (s : St) (d : Option Tmp) (K : St → Prop), zwd G R T.C L n f args s d K → zc7 G f args s d K
 | 0, _, _, _, _, _, h => (zn2 h).elim
 | n + 1, f, args, s, d, K, h => by
  unfold zwd at h
  split at h
  ·rename_i fn hf
   split at h
   ·rename_i c hb;have ha : ACall G f args s.H fun v H' => K ⟨z4n s.t d v, gcH s.H.length v H'⟩ := zbz hf hb (z4o (zbv L n) (L f) c (by
     simp only [z9p, ze4, zai] at h;exact h))
    intro ρ I w a vs c r ra;refine (ha ρ I w vs c ra).mono ?_;rintro e w' ⟨x, rfl, ρ', I', v, H', g, c', hx, hk⟩;obtain ⟨ρ2, g2, c2, r2⟩ := z1aj (n := s.H.length) c' hx g (fun id h => c.dom id h) rfl
    have m2 : Mono ρ I w ρ2 I' w' := c.mono g2 g2.ext;exact ⟨x, rfl, ρ2, I', ⟨_, gcH s.H.length v H'⟩, g2, c2, (r.mono m2).put d r2, hk⟩
   ·exact h.elim
  ·exact h.elim
end
end
noncomputable section
theorem ze1 : ∀ {ids : List Nat} {i : Nat}, ids.contains i = true → ids[zkb ids i]? = some i
 | [], _, h => by simp at h
 | a :: as, i, h => by
  unfold zkb;cases hb : a == i with
  | true => simpa using hb
  | false =>
   have : as.contains i = true := by
    simp only [List.contains_cons, Bool.or_eq_true] at h;rcases h with h | h
    ·rw [beq_iff_eq] at h; subst h; simp at hb
    ·exact h
   simpa using ze1 this
theorem zee : ∀ (l acc : List Nat), acc.Nodup → (dedup l acc).Nodup
 | [], acc, h => h
 | a :: as, acc, h => by
  unfold dedup;cases hb : acc.contains a with
  | true => exact zee as acc h
  | false =>
   refine zee as _ ?_;rw [List.nodup_append];refine ⟨h, by simp, fun x hx y hy => ?_⟩
   simp only [List.mem_singleton] at hy;subst hy;rintro rfl;simp [List.contains_eq_mem, hx] at hb
section
variable {ρ ρ' : Rho} {I : Imm} {w : World}
mutual
theorem z1b4 {ids : List Nat} (hρ : ∀ k i, ids[k]? = some i → ρ' k = ρ i) : ∀ (a : AV) (xs : List Value), zne ids a = true → R ρ I w a xs → R ρ' I w (ztr ids a) xs
 | .sl id off k len, xs, ho, ⟨v, h0, h⟩ => by
  refine ⟨v, h0, ?_⟩;rcases h with ⟨b, cap, h1, h2⟩ | h
  ·exact .inl ⟨b, cap, by rw [hρ _ _ (ze1 ho)]; exact h1, h2⟩
  ·exact .inr h
 | .ptr id off, xs, ho, ⟨v, h0, b, h1, h2⟩ => ⟨v, h0, b, by rw [hρ _ _ (ze1 ho)]; exact h1, h2⟩
 | .agg l, xs, ho, h => z15t hρ l xs (by simpa [zne] using ho) h
 | .tup l, xs, ho, ⟨v, h0, cs, h1, h2⟩ => ⟨v, h0, cs, h1, zu9 hρ l _ (by simpa [zne] using ho) h2⟩
 | .any, xs, ho, h => z2y (n := 0) (fun _ h => by omega) _ xs ho h
 | .raw _, xs, ho, h => z2y (n := 0) (fun _ h => by omega) _ xs ho h
 | .int _ _, xs, ho, h => z2y (n := 0) (fun _ h => by omega) _ xs ho h
 | .u8 _, xs, ho, h => z2y (n := 0) (fun _ h => by omega) _ xs ho h
 | .u32 _, xs, ho, h => z2y (n := 0) (fun _ h => by omega) _ xs ho h
 | .u64 _, xs, ho, h => z2y (n := 0) (fun _ h => by omega) _ xs ho h
 | .bool _, xs, ho, h => z2y (n := 0) (fun _ h => by omega) _ xs ho h
 | .str _, xs, ho, h => z2y (n := 0) (fun _ h => by omega) _ xs ho h
 | .b8 _ _, xs, ho, h => z2y (n := 0) (fun _ h => by omega) _ xs ho h
 | .w32 _ _, xs, ho, h => z2y (n := 0) (fun _ h => by omega) _ xs ho h
 | .w64 _ _, xs, ho, h => z2y (n := 0) (fun _ h => by omega) _ xs ho h
 | .n64 _ _, xs, ho, h => z2y (n := 0) (fun _ h => by omega) _ xs ho h
 | .pix _ _ _ _, xs, ho, h => z2y (n := 0) (fun _ h => by omega) _ xs ho h
 | .vec8 _ _, xs, ho, h => z2y (n := 0) (fun _ h => by omega) _ xs ho h
 | .vec _ _ _, xs, ho, h => z2y (n := 0) (fun _ h => by omega) _ xs ho h
 | .vecr _ _ _ _, xs, ho, h => z2y (n := 0) (fun _ h => by omega) _ xs ho h
 | .slv id k n f, xs, ho, h => by
  obtain ⟨v, h0, k0, ⟨vs, k1, k2, k3⟩, k4⟩ := h;refine ⟨v, h0, k0, ⟨vs, k1, fun i hi => z3k (n := 0) (fun _ h => by omega) _ _ (z2t _ (z3u (k0 i hi)) 0) (k2 i hi), k3⟩, ?_⟩
  rcases k4 with ⟨b, cap, h1, h2⟩ | h
  ·exact .inl ⟨b, cap, by rw [hρ _ _ (ze1 ho)]; exact h1, h2⟩
  ·exact .inr h
 | .vp _ _, xs, ho, h => z2y (n := 0) (fun _ h => by omega) _ xs ho h
 | .vpx _ _ _ _, xs, ho, h => z2y (n := 0) (fun _ h => by omega) _ xs ho h
 | .fn _ _ _, xs, ho, h => z2y (n := 0) (fun _ h => by omega) _ xs ho h
theorem z15t {ids : List Nat} (hρ : ∀ k i, ids[k]? = some i → ρ' k = ρ i) : ∀ (l : List AV) (xs : List Value), zb3 ids l = true → RL ρ I w l xs → RL ρ' I w (zq6 ids l) xs
 | [], _, _, h => h
 | a :: as, _, ho, ⟨ys, zs, h0, h1, h2⟩ => by
  simp only [zb3, Bool.and_eq_true] at ho;exact ⟨ys, zs, h0, z1b4 hρ a ys ho.1 h1, z15t hρ as zs ho.2 h2⟩
theorem zu9 {ids : List Nat} (hρ : ∀ k i, ids[k]? = some i → ρ' k = ρ i) : ∀ (l : List AV) (vs : List Value), zb3 ids l = true → RV ρ I w l vs → RV ρ' I w (zq6 ids l) vs
 | [], _, _, h => h
 | a :: as, _, ho, ⟨x, xs, h0, h1, h2⟩ => by
  simp only [zb3, Bool.and_eq_true] at ho;refine ⟨x, xs, h0, ?_, zu9 hρ as xs ho.2 h2⟩;have : ∀ ys, R ρ I w a ys → R ρ' I w (ztr ids a) ys := fun ys => z1b4 hρ a ys ho.1
  cases a <;> simp only [ztr, valOf] at h1 ⊢ <;> first | trivial | exact this _ h1 | (obtain ⟨cs, k1, k2⟩ := h1; exact ⟨cs, k1, this _ k2⟩)
end
end
section
variable {P : Program} {G : Env P} {R : ROps G} {T : Ctr G}
theorem ACall.z1lg {L : FuncId → Nat → LPlan} {n : Nat} {f : FuncId} {args : List AV} {K : AV → Heap → Prop} (h : walk G R T.C L n f args K) : ACall G f args [] K := by
 unfold walk at h
 split at h
 ·rename_i fn hf
  split at h
  ·rename_i c hb;have ha : ACall G f args [] (zmb K) := zbz hf hb (z4o (zbv L n) (L f) c (by
    simp only [z9p] at h;exact h))
   intro ρ I w vs hc hr;have hnone : ∀ id, ρ id = none := fun id => Classical.byContradiction fun hn => by have := hc.dom id hn; simp at this
   have hρ0 : ρ = fun _ => none := funext hnone
   subst hρ0;refine (ha _ I w vs hc hr).mono ?_;rintro e w' ⟨x, rfl, ρ', I', v, H', g, c', hx, hk⟩;unfold zmb at hk;obtain ⟨hok, hK⟩ := zd.1 hk;simp only [Bool.and_eq_true] at hok;have hE : ∀ (ids : List Nat), colE H' ids = true → ∀ i ∈ ids, ∃ e, H'[i]? = some e ∧ e.live = true ∧ z6h 0 e = true := by
    intro ids
    induction ids with
    | nil => intro _ i hi; simp at hi
    | cons a as ih =>
     intro h i hi;simp only [colE, Bool.and_eq_true] at h;rcases List.mem_cons.1 hi with rfl | hi
     ·have h1 := h.1
      split at h1
      ·rename_i e he;simp only [Bool.and_eq_true] at h1;exact ⟨e, he, h1.1, h1.2⟩
      ·simp at h1
     ·exact ih h.2 i hi
   have hE' := hE _ hok.2;obtain ⟨ρ2, q1, q2, q3⟩ := z175 c' (dedup (refsOf [v]) []) (zee _ _ (by simp)) (fun i hi e he => by
    obtain ⟨e', h1, h2, h3⟩ := hE' i hi;rw [h1] at he; simp at he; subst he; exact ⟨h2, h3⟩) (fun i hi => by
    obtain ⟨e', h1, _⟩ := hE' i hi;exact (List.getElem?_eq_some_iff.1 h1).1)
   refine ⟨x, rfl, ρ2, I', _, _, q3 g, q2, ?_, hK⟩;have hl : RV ρ2 I' w' (zq6 (dedup (refsOf [v]) []) [v]) [x] := zu9 q1 [v] [x] (by simp [zb3, hok.1]) (zr.2 ⟨x, [], rfl, hx, rfl⟩)
   obtain ⟨y, ys, k1, k2, _⟩ := zr.1 hl;simp only [List.cons.injEq] at k1;obtain ⟨rfl, _⟩ := k1;exact k2
  ·exact h.elim
 ·exact h.elim
theorem HCall.z1lg (L : FuncId → Nat → LPlan) (n : Nat) {f : FuncId} {args : List AV} {out : Out} (hp : zw args = true) (ho : out.okB = true) (h : walk G R T.C L n f args out.has) : HCall G f args out :=
 ⟨hp, ho, ACall.z1lg h⟩
def Ctr.nil (G : Env P) : Ctr G := ⟨fun _ _ => none, fun _ _ _ _ h => by simp at h⟩
def Ctr.add (T : Ctr G) (k : Nat) (c : List AV → Option (Bool × Out)) (ok : ∀ args pre out, c args = some (pre, out) → pre = true → HCall G k args out) : Ctr G where
 C := fun f args => bif f == k then c args else T.C f args
 ok := fun f args pre out h hp => by
  cases hb : f == k with
  | true =>
   rw [hb] at h;have : f = k := by simpa using hb
   subst this;exact .inl (ok args pre out h hp)
  | false => rw [hb] at h; exact T.ok f args pre out h hp
def ROps.nil (G : Env P) : ROps G := { f := fun _ _ _ _ => none, congr := fun _ _ _ _ _ _ _ _ => rfl, sound := fun _ _ _ _ _ _ _ _ _ _ _ _ _ h => by simp at h }
end
end
def zha : AV → Prop
 | .b8 n l => l.length = n
 | .w32 n l => l.length = n
 | .w64 n l => l.length = n
 | .n64 n l => l.length = n
 | _ => True
section
variable {P : Program} {G : Env P}
theorem z13i {ρ : Rho} {I : Imm} {w : World} {a : AV} {v : Value} (h : rel ρ I w a v) : zha a := by
 cases a <;> first | trivial | (obtain ⟨_, _, _, h⟩ := h; exact h)
theorem zvp {ρ : Rho} {I : Imm} {w : World} : ∀ {l : List AV} {vs : List Value}, RV ρ I w l vs → ∀ a ∈ l, zha a
 | [], _, _, a, ha => by simp at ha
 | b :: bs, _, ⟨x, xs, h0, h1, h2⟩, a, ha => by
  rcases List.mem_cons.1 ha with rfl | ha
  ·exact z13i h1
  ·exact zvp h2 a ha
theorem HCall.z1lj {f : FuncId} {args : List AV} {out : Out} (hp : zw args = true) (ho : out.okB = true) (h : (∀ a ∈ args, zha a) → HCall G f args out) : HCall G f args out := by
 refine ⟨hp, ho, fun ρ I w vs c r => ?_⟩
 exact (h (zvp r)).call ρ I w vs c r
theorem z96 {v v' : AV} {H H' : Heap} : (Out.ret v H).has v' H' ↔ v' = v ∧ H' = H := Iff.rfl
theorem zh2 {v : AV} {H : Heap} : (Out.ret v H).has v H := ⟨rfl, rfl⟩
theorem z7r {b : Bool} {x y : Prop} : za b x y = ((b = true → x) ∧ (b = false → y)) := propext zq
theorem zjm {b : Bool} {x : Prop} : cnd b x = (b = true ∧ x) := propext zd
end
noncomputable section
section
variable {P : Program} {G : Env P}
def leV (a b : AV) : Prop := ∀ ρ I w v, rel ρ I w a v → rel ρ I w b v
theorem HCall.weak {f : FuncId} {args : List AV} {a b : AV} {H0 : Heap} (h : HCall G f args (.ret a H0)) (hle : leV a b) (hb : z35 H0.length b = true) : HCall G f args (.ret b H0) := by
 obtain ⟨h1, h2, h3⟩ := h;refine ⟨h1, ?_, fun ρ I w vs c r => (h3 ρ I w vs c r).mono ?_⟩
 ·simp only [Out.okB, Bool.and_eq_true] at h2 ⊢;exact ⟨hb, h2.2⟩
 ·rintro e w' ⟨x, rfl, ρ', I', v, H', g, c', hr, rfl, rfl⟩;exact ⟨x, rfl, ρ', I', b, H', g, c', hle _ _ _ _ hr, rfl, rfl⟩
theorem HCall.drop {f : FuncId} {args : List AV} {a b : AV} {H0 : Heap} (h : HCall G f args (.ret a H0)) (hle : leV a b) (hb : z1b b = true) : HCall G f args (.ret b []) := by
 obtain ⟨h1, h2, h3⟩ := h;refine ⟨h1, ?_, fun ρ I w vs c r => (h3 ρ I w vs c r).mono ?_⟩
 ·simp only [Out.okB, Bool.and_eq_true];exact ⟨z3p b hb _, rfl⟩
 ·rintro e w' ⟨x, rfl, ρ', I', v, H', g, c', hr, rfl, rfl⟩;obtain ⟨c2, g2⟩ := z7n c' 0 (fun e he => by simp at he)
  exact ⟨x, rfl, z7l 0 ρ', I', b, [], g2 g (fun id h => absurd (c.dom id h) (by simp)) (Nat.le_refl _), c2, z7i hb (hle _ _ _ _ hr), rfl, rfl⟩
inductive OutLe : Out → Out → Prop where
 | refl (o : Out) : OutLe o o
 | drop {a b : AV} {H0 : Heap} (hle : leV a b) (hb : z1b b = true) : OutLe (.ret a H0) (.ret b [])
 | alt {b : Bool} {x y x' y' : Out} (h1 : b = true → OutLe x x') (h2 : b = false → OutLe y y') : OutLe (.alt b x y) (.alt b x' y')
theorem OutLe.has {o o' : Out} (h : OutLe o o') : ∀ {v : AV} {H : Heap}, o.has v H → (o'.has v H ∨ ∃ b, z1b b = true ∧ leV v b ∧ o'.has b []) := by
 induction h with
 | refl o => exact fun h => .inl h
 | drop hle hb =>
  rintro v H ⟨rfl, rfl⟩;exact .inr ⟨_, hb, hle, rfl, rfl⟩
 | @alt b x y x' y' _ _ ih1 ih2 =>
  intro v H h;cases b with
  | true => exact ih1 rfl h
  | false => exact ih2 rfl h
theorem HCall.le {f : FuncId} {args : List AV} {o o' : Out} (h : HCall G f args o) (hle : OutLe o o') (ho : o'.okB = true) : HCall G f args o' := by
 obtain ⟨h1, h2, h3⟩ := h;refine ⟨h1, ho, fun ρ I w vs c r => (h3 ρ I w vs c r).mono ?_⟩
 rintro e w' ⟨x, rfl, ρ', I', v, H', g, c', hr, hh⟩;rcases hle.has hh with h' | ⟨b, hb, hle, h'⟩
 ·exact ⟨x, rfl, ρ', I', v, H', g, c', hr, h'⟩
 ·obtain ⟨c2, g2⟩ := z7n c' 0 (fun e he => by simp at he)
  exact ⟨x, rfl, z7l 0 ρ', I', b, [], g2 g (fun id h => absurd (c.dom id h) (by simp)) (Nat.le_refl _), c2, z7i hb (hle _ _ _ _ hr), h'⟩
theorem HCall.args {f : FuncId} {l l' : List AV} {out : Out} (h : HCall G f l out) (hp : zw l' = true) (hle : ∀ ρ I w vs, RV ρ I w l' vs → RV ρ I w l vs) : HCall G f l' out :=
 ⟨hp, h.po, fun ρ I w vs c r => h.call ρ I w vs c (hle _ _ _ _ r)⟩
theorem leV.refl (a : AV) : leV a a := fun _ _ _ _ h => h
theorem z6d {full full' : Bool} {k m : Nat} {f g : Nat → List AV} (hf : full = true → full' = true) (h : ∀ x, x < m → leR (f x) (g x)) : leV (.vecr full' k m f) (.vecr full k m g) := fun _ _ _ _ r => zkp h hf r
theorem zfa {a : AV} (h : z9s a = true) {full : Bool} {k : Nat} {g : Nat → List AV} : leV a (.vecr full k 0 g) := fun _ _ _ _ r => by
 obtain ⟨x, rfl⟩ := zgo h r;exact zlj
theorem z80 {l l' : List AV} (h : ∀ ρ I w vs, RV ρ I w l vs → RV ρ I w l' vs) : leV (.tup l) (.tup l') := fun _ _ _ _ r => by
 obtain ⟨cs, h1, h2⟩ := z49.1 r;exact z49.2 ⟨cs, h1, h _ _ _ _ h2⟩
theorem z14 {a b : AV} {l l' : List AV} (h : leV a b) (h' : ∀ ρ I w vs, RV ρ I w l vs → RV ρ I w l' vs) : ∀ ρ I w vs, RV ρ I w (a :: l) vs → RV ρ I w (b :: l') vs := fun _ _ _ _ r => by
 obtain ⟨x, xs, rfl, k1, k2⟩ := zr.1 r;exact zr.2 ⟨x, xs, rfl, h _ _ _ _ k1, h' _ _ _ _ k2⟩
theorem z3t : ∀ ρ I w vs, RV ρ I w [] vs → RV ρ I w [] vs := fun _ _ _ _ h => h
theorem zzp {l l' : List AV} (h : leR l l') : leV (.agg l) (.agg l') := fun _ _ _ _ r => by
 obtain ⟨cs, h1, h2⟩ := z2w.1 r;exact z2w.2 ⟨cs, h1, h.rl _ _ _ _ h2⟩
theorem z42 (l : List AV) : leV (.agg l) (.agg (flL l)) := fun ρ I w v h => by
 obtain ⟨cs, h1, h2⟩ := z2w.1 h;exact z2w.2 ⟨cs, h1, (z7s l _).1 h2⟩
end
end
end Go.V