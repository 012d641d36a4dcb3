import Derived.Test.YtehaohfglolljaaGreatDoorZzad
import Derived.Deep.AppendSrc
import Derived.Laws.AppendOwn
import Derived.Laws.MakeOwn
import Derived.Great.BuildSlice
import Derived.Laws.IdiomCopy
set_option linter.unusedSimpArgs false
set_option linter.unusedVariables false
namespace Go.V
open Go
noncomputable section
section
variable {P : Program} {G : Env P} {g : Nat → Option (List AV)} {ρ : Rho} {I : Imm} {H : Heap} {w : World}
theorem fill_gen (c : Conc g ρ I H w) {nid : Nat} (hn : H[nid]? = some .res) (e : Ent) (x : Option Nat) {w' : World} (hx : ∀ b, x = some b → w.heap.size ≤ b ∧ b < w'.heap.size) (hsz : w.heap.size ≤ w'.heap.size)
  (hold : ∀ b, b < w.heap.size → w'.heap[b]? = w.heap[b]?) (hl : e.live = true)
  (h1 : ∀ cs f, e = .blk cs f → ∃ b el fr us, x = some b ∧ w'.heap[b]? = some (.cells (List.toArray us) el fr) ∧ RL ρ I w cs us ∧ clear fr us.length)
  (h2 : e.grows = true → e.even ∧ ((x = none ∧ szL e.cells = 0) ∨ ∃ b el fr cs rest, x = some b ∧ w'.heap[b]? = some (.cells (List.toArray (cs ++ rest)) el fr) ∧ RL ρ I w e.cells cs ∧ clear fr (cs ++ rest).length))
  (hos : w'.os = w.os) (htape : w'.tape = w.tape) (hout : w'.output = w.output) :
  Good ρ I H w (bindR ρ nid x) I (H.set nid e) w' ∧ Conc g (bindR ρ nid x) I (H.set nid e) w' ∧ Mono ρ I w (bindR ρ nid x) I w' := by
 have hlt : nid < H.length := (List.getElem?_eq_some_iff.1 hn).1
 have hnone := c.res nid hn
 have hset : ∀ i e1, (H.set nid e)[i]? = some e1 → (i = nid ∧ e1 = e) ∨ (i ≠ nid ∧ H[i]? = some e1) := fun i e1 h => set_cases h
 have ho : ∀ i, i ≠ nid → bindR ρ nid x i = ρ i := fun i hi => by simp [bindR, hi]
 have hnew : bindR ρ nid x nid = some x := by simp [bindR]
 have gd : Good ρ I H w (bindR ρ nid x) I (H.set nid e) w' := by
  refine ⟨fun id y h => bindR_old hnone h, fun id y h ⟨e1, k1, k2⟩ => ?_, by simp, fun _ _ h => h, fun _ _ _ h => .inl h, hos, htape, hout, hsz, fun b off h _ => by simp only [World.cell?, hold b h], fun b h _ => hold b h,
   fun b h => by unfold bsz; rw [hold b h], ?_, ?_⟩
  ·rcases hset id e1 k1 with ⟨rfl, _⟩ | ⟨_, k⟩
   ·rw [hnone] at h; simp at h
   ·exact ⟨e1, k, k2⟩
  ·rintro b off hb ⟨i, e1, k1, k2, k3, k4⟩
   rcases hset i e1 k1 with ⟨rfl, rfl⟩ | ⟨hi, h⟩
   ·rw [hnew] at k3; have := hx b (by simpa using k3); omega
   ·rw [ho i hi] at k3; exact ⟨i, e1, h, k2, k3, k4⟩
  ·rintro b hb ⟨i, e1, k1, k2, k3⟩
   rcases hset i e1 k1 with ⟨rfl, rfl⟩ | ⟨hi, h⟩
   ·rw [hnew] at k3; have := hx b (by simpa using k3); omega
   ·rw [ho i hi] at k3; exact ⟨i, e1, h, k2, k3⟩
 have m := c.mono gd fun id y h => bindR_old hnone h
 refine ⟨gd, ⟨?_, ?_, ?_, ?_, ?_, ?_, ?_, ?_⟩, m⟩
 ·intro id h
  by_cases e : id = nid
  ·subst e; simpa using hlt
  ·rw [ho id e] at h; simpa using c.dom id h
 ·intro id h
  rcases hset id _ h with ⟨_, h'⟩ | ⟨hi, h'⟩
  ·rw [← h'] at hl; simp [Ent.live] at hl
  ·rw [ho id hi]; exact c.res id h'
 ·intro id b h
  by_cases e : id = nid
  ·subst e; rw [hnew] at h; exact (hx b (by simpa using h)).2
  ·rw [ho id e] at h; have := c.blt id b h; omega
 ·intro i j b e1 e2 hi l1 hj l2 hbi hbj
  rcases hset i e1 hi with ⟨rfl, rfl⟩ | ⟨ki, hi'⟩ <;> rcases hset j e2 hj with ⟨rfl, rfl⟩ | ⟨kj, hj'⟩
  ·rfl
  ·rw [hnew] at hbi; rw [ho j kj] at hbj; have := hx b (by simpa using hbi); have := c.blt j b hbj; omega
  ·rw [hnew] at hbj; rw [ho i ki] at hbi; have := hx b (by simpa using hbj); have := c.blt i b hbi; omega
  ·rw [ho i ki] at hbi; rw [ho j kj] at hbj; exact c.inj i j b e1 e2 hi' l1 hj' l2 hbi hbj
 ·intro id cs f h
  rcases hset id _ h with ⟨rfl, h'⟩ | ⟨hi, h'⟩
  ·obtain ⟨b, el, fr, us, k0, k1, k2, k3⟩ := h1 cs f h'.symm
   exact ⟨b, el, fr, us, by rw [hnew, k0], k1, RL_mono m _ _ k2, k3⟩
  ·obtain ⟨b, el', fr, us, k1, k2, k3, k4⟩ := c.blk id cs f h'
   exact ⟨b, el', fr, us, by rw [ho id hi]; exact k1, by rw [hold b (c.blt id b k1)]; exact k2, RL_mono m _ _ k3, k4⟩
 ·intro id e1 h he
  rcases hset id _ h with ⟨rfl, rfl⟩ | ⟨hi, h'⟩
  ·obtain ⟨q, k⟩ := h2 he
   refine ⟨q, ?_⟩
   rcases k with ⟨k0, k1⟩ | ⟨b, el, fr, us, rest, k0, k1, k2, k3⟩
   ·exact .inl ⟨by rw [hnew, k0], k1⟩
   ·exact .inr ⟨b, el, fr, us, rest, by rw [hnew, k0], k1, RL_mono m _ _ k2, k3⟩
  ·obtain ⟨q, h'⟩ := c.grow id e1 h' he
   refine ⟨q, ?_⟩
   rcases h' with ⟨k1, k2⟩ | ⟨b, el', fr, us, rest, k1, k2, k3, k4⟩
   ·exact .inl ⟨by rw [ho id hi]; exact k1, k2⟩
   ·exact .inr ⟨b, el', fr, us, rest, by rw [ho id hi]; exact k1, by rw [hold b (c.blt id b k1)]; exact k2, RL_mono m _ _ k3, k4⟩
 ·intro b o hb
  obtain ⟨q1, q2⟩ := c.imm b o hb
  exact ⟨by omega, fun h => q2 (gd.wrt b o q1 h)⟩
 ·intro gl cs h
  obtain ⟨us, q1, q2⟩ := c.glob gl cs h
  exact ⟨us, GL_mono m q1, q2.mono m.imm⟩
theorem dead_conc (c : Conc g ρ I H w) (id : Nat) : (H[id]? ≠ some .res) → Good ρ I H w ρ I (H.set id .dead) w ∧ Conc g ρ I (H.set id .dead) w := by
 intro hne
 have hset : ∀ i e1, (H.set id .dead)[i]? = some e1 → (i = id ∧ e1 = .dead) ∨ (i ≠ id ∧ H[i]? = some e1) := fun i e1 h => set_cases h
 have live : ∀ (i : Nat) (e1 : Ent), (H.set id .dead)[i]? = some e1 → e1.live = true → H[i]? = some e1 := by
  intro i e1 h hl
  rcases hset i e1 h with ⟨_, rfl⟩ | ⟨_, h⟩
  ·simp [Ent.live] at hl
  ·exact h
 have gl : ∀ (e : Ent), e.grows = true → e.live = true := by intro e h; cases e <;> simp_all [Ent.grows, Ent.live]
 have gd : Good ρ I H w ρ I (H.set id .dead) w :=
  ⟨fun _ _ h => h, fun i x _ ⟨e, h1, h2⟩ => ⟨e, live i e h1 (gl e h2), h2⟩, by simp, fun _ _ h => h, fun _ _ _ h => .inl h, rfl, rfl, rfl, Nat.le_refl _, fun _ _ _ _ => rfl, fun _ _ _ => rfl, fun _ _ => rfl,
   fun b o _ ⟨i, e, h1, h2, h3, h4⟩ => ⟨i, e, live i e h1 h2, h2, h3, h4⟩, fun b _ ⟨i, e, h1, h2, h3⟩ => ⟨i, e, live i e h1 h2, h2, h3⟩⟩
 refine ⟨gd, fun i h => by simpa using c.dom i h, fun i h => ?_, c.blt, fun i j b e e' hi l1 hj l2 => c.inj i j b e e' (live i e hi l1) l1 (live j e' hj l2) l2,
  fun i cs f h => c.blk i cs f (live i _ h rfl), fun i e h he => c.grow i e (live i _ h (gl e he)) he, fun b o h => ⟨(c.imm b o h).1, fun hm => (c.imm b o h).2 (gd.wrt b o (c.imm b o h).1 hm)⟩, c.glob⟩
 rcases hset i _ h with ⟨_, h⟩ | ⟨_, h⟩
 ·simp at h
 ·exact c.res i h
theorem move_conc (c : Conc g ρ I H w) {id nid : Nat} {e : Ent} {y : Option Nat} (hid : H[id]? = some e) (hl : e.live = true) (hy : ρ id = some y) (hn : H[nid]? = some .res) :
  Good ρ I H w (bindR ρ nid y) I ((H.set nid e).set id .dead) w ∧ Conc g (bindR ρ nid y) I ((H.set nid e).set id .dead) w ∧ Mono ρ I w (bindR ρ nid y) I w := by
 have hne : id ≠ nid := by rintro rfl; rw [hid] at hn; simp at hn; subst hn; simp [Ent.live] at hl
 have hlt : nid < H.length := (List.getElem?_eq_some_iff.1 hn).1
 have hlt' : id < H.length := (List.getElem?_eq_some_iff.1 hid).1
 have hnone := c.res nid hn
 have ho : ∀ i, i ≠ nid → bindR ρ nid y i = ρ i := fun i hi => by simp [bindR, hi]
 have hnew : bindR ρ nid y nid = some y := by simp [bindR]
 have hset : ∀ i e1, ((H.set nid e).set id .dead)[i]? = some e1 → (i = id ∧ e1 = .dead) ∨ (i = nid ∧ e1 = e) ∨ (i ≠ nid ∧ i ≠ id ∧ H[i]? = some e1) := by
  intro i e1 h
  rcases set_cases h with h | ⟨h1, h2⟩
  ·exact .inl h
  ·rcases set_cases h2 with h | ⟨h3, h4⟩
   ·exact .inr (.inl h)
   ·exact .inr (.inr ⟨h3, h1, h4⟩)
 have old : ∀ (i : Nat) (e1 : Ent), ((H.set nid e).set id .dead)[i]? = some e1 → e1.live = true → ∃ j, H[j]? = some e1 ∧ bindR ρ nid y i = ρ j ∧ ((i = nid ∧ j = id) ∨ (i ≠ nid ∧ i ≠ id ∧ j = i)) := by
  intro i e1 h h1
  rcases hset i e1 h with ⟨_, rfl⟩ | ⟨rfl, rfl⟩ | ⟨h2, h3, h4⟩
  ·simp [Ent.live] at h1
  ·exact ⟨id, hid, by rw [hnew, hy], .inl ⟨rfl, rfl⟩⟩
  ·exact ⟨i, h4, ho i h2, .inr ⟨h2, h3, rfl⟩⟩
 have gl : ∀ (e : Ent), e.grows = true → e.live = true := by intro e h; cases e <;> simp_all [Ent.grows, Ent.live]
 have gd : Good ρ I H w (bindR ρ nid y) I ((H.set nid e).set id .dead) w := by
  refine ⟨fun id x h => bindR_old hnone h, fun i x hx ⟨e1, k1, k2⟩ => ?_, by simp, fun _ _ h => h, fun _ _ _ h => .inl h, rfl, rfl, rfl, Nat.le_refl _, fun _ _ _ _ => rfl, fun _ _ _ => rfl, fun _ _ => rfl, ?_, ?_⟩
  ·rcases hset i e1 k1 with ⟨_, rfl⟩ | ⟨rfl, rfl⟩ | ⟨_, _, h⟩
   ·simp [Ent.grows] at k2
   ·rw [hnone] at hx; simp at hx
   ·exact ⟨e1, h, k2⟩
  ·rintro b o hb ⟨i, e1, h1, h2, h3, h4⟩
   obtain ⟨j, k1, k2, _⟩ := old i e1 h1 h2
   exact ⟨j, e1, k1, h2, k2 ▸ h3, h4⟩
  ·rintro b hb ⟨i, e1, h1, h2, h3⟩
   obtain ⟨j, k1, k2, _⟩ := old i e1 h1 h2
   exact ⟨j, e1, k1, h2, k2 ▸ h3⟩
 have m := c.mono gd fun id x h => bindR_old hnone h
 refine ⟨gd, ⟨?_, ?_, ?_, ?_, ?_, ?_, ?_, ?_⟩, m⟩
 ·intro i h
  by_cases e : i = nid
  ·subst e; simpa using hlt
  ·rw [ho i e] at h; simpa using c.dom i h
 ·intro i h
  rcases hset i _ h with ⟨_, h'⟩ | ⟨_, h'⟩ | ⟨h1, _, h'⟩
  ·simp at h'
  ·rw [← h'] at hl; simp [Ent.live] at hl
  ·rw [ho i h1]; exact c.res i h'
 ·intro i b h
  by_cases e : i = nid
  ·subst e; rw [hnew, ← hy] at h; exact c.blt id b h
  ·rw [ho i e] at h; exact c.blt i b h
 ·intro i j b e1 e2 hi l1 hj l2 hbi hbj
  obtain ⟨i', a1, a2, a3⟩ := old i e1 hi l1
  obtain ⟨j', b1, b2, b3⟩ := old j e2 hj l2
  have := c.inj i' j' b e1 e2 a1 l1 b1 l2 (a2 ▸ hbi) (b2 ▸ hbj)
  rcases a3 with ⟨_, _⟩ | ⟨_, _, _⟩ <;> rcases b3 with ⟨_, _⟩ | ⟨_, _, _⟩ <;> omega
 ·intro i cs f h
  obtain ⟨j, k1, k2, _⟩ := old i _ h rfl
  obtain ⟨b, el, fr, us, q1, q2, q3, q4⟩ := c.blk j cs f k1
  exact ⟨b, el, fr, us, by rw [k2]; exact q1, q2, RL_mono m _ _ q3, q4⟩
 ·intro i e1 h he
  obtain ⟨j, k1, k2, _⟩ := old i _ h (gl e1 he)
  obtain ⟨q, h'⟩ := c.grow j e1 k1 he
  refine ⟨q, ?_⟩
  rcases h' with ⟨q1, q2⟩ | ⟨b, el, fr, us, rest, q1, q2, q3, q4⟩
  ·exact .inl ⟨by rw [k2]; exact q1, q2⟩
  ·exact .inr ⟨b, el, fr, us, rest, by rw [k2]; exact q1, q2, RL_mono m _ _ q3, q4⟩
 ·intro b o hb
  obtain ⟨q1, q2⟩ := c.imm b o hb
  exact ⟨q1, fun h => q2 (gd.wrt b o q1 h)⟩
 ·intro gl cs h
  obtain ⟨us, q1, q2⟩ := c.glob gl cs h
  exact ⟨us, GL_mono m q1, q2.mono m.imm⟩
theorem drop_res (c : Conc g ρ I (H ++ [.res]) w) : Conc g ρ I H w := by
 have up : ∀ (i : Nat) (e : Ent), H[i]? = some e → (H ++ [.res])[i]? = some e := fun i e h => by
  rw [List.getElem?_append_left (List.getElem?_eq_some_iff.1 h).1]; exact h
 refine ⟨fun id h => ?_, fun id h => c.res id (up id _ h), c.blt, fun i j b e e' hi l1 hj l2 => c.inj i j b e e' (up i e hi) l1 (up j e' hj) l2, fun i cs f h => c.blk i cs f (up i _ h), fun i e h he => c.grow i e (up i _ h) he,
  fun b o h => ⟨(c.imm b o h).1, fun ⟨i, e, h1, h2⟩ => (c.imm b o h).2 ⟨i, e, up i e h1, h2⟩⟩, c.glob⟩
 have h1 := c.dom id h
 refine Classical.byContradiction fun h2 => h (c.res id ?_)
 have : id = H.length := by simp at h1; omega
 subst this; simp
theorem drop_res_good {ρ0 : Rho} {I0 : Imm} {H0 : Heap} {w0 : World} (hl : H0.length ≤ H.length) (gd : Good ρ0 I0 H0 w0 ρ I (H ++ [.res]) w) : Good ρ0 I0 H0 w0 ρ I H w := by
 have up : ∀ (i : Nat) (e : Ent), H[i]? = some e → (H ++ [.res])[i]? = some e := fun i e h => by
  rw [List.getElem?_append_left (List.getElem?_eq_some_iff.1 h).1]; exact h
 exact ⟨gd.ext, fun i x h ⟨e, h1, h2⟩ => gd.kp i x h ⟨e, up i e h1, h2⟩, hl, gd.imm, gd.imm', gd.os, gd.tape, gd.out, gd.size, gd.cell, gd.block, gd.bs, fun b o hb ⟨i, e, h1, h2⟩ => gd.wrt b o hb ⟨i, e, up i e h1, h2⟩,
  fun b hb ⟨i, e, h1, h2⟩ => gd.own b hb ⟨i, e, up i e h1, h2⟩⟩
end
end
noncomputable section
inductive Eff where
 | one (c : Bool) (v : AV) (u : List (Nat × Ent))
 | br (b : Bool) (x y : Eff)
 | ck (b : Bool) (x : Eff)
 | bad
 deriving Inhabited
def Eff.go : Eff → (AV → List (Nat × Ent) → Prop) → Prop
 | .one c v u, K => cnd c (K v u)
 | .br b x y, K => ite2 b (x.go K) (y.go K)
 | .ck b x, K => cnd b (x.go K)
 | .bad, _ => False
def Eff.has : Eff → AV → List (Nat × Ent) → Prop
 | .one c v u, v', u' => c = true ∧ v' = v ∧ u' = u
 | .br b x y, v', u' => match b with
  | true => x.has v' u'
  | false => y.has v' u'
 | .ck b x, v', u' => b = true ∧ x.has v' u'
 | .bad, _, _ => False
theorem Eff.go_has : ∀ {E : Eff} {K : AV → List (Nat × Ent) → Prop}, E.go K → ∃ v u, E.has v u ∧ K v u
 | .one c v u, K, h => let ⟨h1, h2⟩ := cnd_iff.1 h; ⟨v, u, ⟨h1, rfl, rfl⟩, h2⟩
 | .ck b x, K, h => let ⟨h1, h2⟩ := cnd_iff.1 h; let ⟨v, u, h3, h4⟩ := Eff.go_has (E := x) h2; ⟨v, u, ⟨h1, h3⟩, h4⟩
 | .br true x y, K, h => Eff.go_has (E := x) h
 | .br false x y, K, h => Eff.go_has (E := y) h
 | .bad, K, h => h.elim
def refId0 : AV → List Nat
 | .ptr id _ => [id]
 | .pix id _ _ _ => [id]
 | .sl id _ _ _ => [id]
 | .slv id _ _ _ => [id]
 | _ => []
mutual
def refD : AV → List Nat
 | .ptr id _ => [id]
 | .pix id _ _ _ => [id]
 | .sl id _ _ _ => [id]
 | .slv id _ _ _ => [id]
 | .agg l => refDL l
 | _ => []
def refDL : List AV → List Nat
 | [] => []
 | a :: as => refD a ++ refDL as
end
def refId : AV → List Nat
 | .ptr id _ => [id]
 | .pix id _ _ _ => [id]
 | .sl id _ _ _ => [id]
 | .slv id _ _ _ => [id]
 | .agg l => refDL l
 | .fn _ a b => a.flatMap refD ++ b.flatMap refD
 | _ => []
theorem refD_sub {a : AV} {id : Nat} (h : id ∈ refD a) : id ∈ refId a := by cases a <;> simp_all [refD, refId]
theorem refD_of0 {a : AV} {id : Nat} (h : id ∈ refId0 a) : id ∈ refD a := by cases a <;> simp_all [refD, refId0]
def refIds (ev : Operand → AV) (l : List Operand) : List Nat := l.flatMap fun x => refId (ev x)
def callSlots : Nat := 3
def upTo (nid : Nat) : Nat → List Nat
 | 0 => []
 | n + 1 => nid :: upTo (nid + 1) n
def readsE (ev : Operand → AV) (op : Op) (nid n : Nat) : List Nat :=
 match op with
 | .move _ => []
 | .assign _ => []
 | .pick _ _ _ => []
 | .extract _ _ => []
 | .fieldAddr _ _ _ => []
 | .indexAddr _ _ _ => []
 | .index _ _ _ => []
 | .field _ _ _ => []
 | .binOp _ _ _ _ _ => []
 | .unOp _ _ _ => []
 | .nilCheck _ => []
 | .makeFunc _ _ _ => []
 | .build _ _ => []
 | .load _ a => refId (ev a)
 | .store _ a _ => refId (ev a)
 | op => refIds ev op.operands.toList ++ upTo nid n
section
variable {P : Program} (G : Env P)
def EffOk (ρ : Rho) (I : Imm) (H : Heap) (w : World) (res : Result Next) (v : AV) (u : List (Nat × Ent)) : Prop :=
 ∃ (x : Value) (w' : World), (res = .ok (.value x) w' ∨ (res = .ok .skip w' ∧ x = undef)) ∧ ∃ (ρ' : Rho) (I' : Imm), Good ρ I H w ρ' I' (updH H u) w' ∧ Conc G.g ρ' I' (updH H u) w' ∧ Mono ρ I w ρ' I' w' ∧ rel ρ' I' w' v x
def Eff.pre (u0 : List (Nat × Ent)) : Eff → Eff
 | .one c v u => .one c v (u0 ++ u)
 | .br b x y => .br b (x.pre u0) (y.pre u0)
 | .ck b x => .ck b (x.pre u0)
 | .bad => .bad
theorem Eff.pre_has {u0 : List (Nat × Ent)} : ∀ {E : Eff} {v : AV} {u : List (Nat × Ent)}, (E.pre u0).has v u → ∃ u1, u = u0 ++ u1 ∧ E.has v u1
 | .one c v' u', v, u, ⟨h1, h2, h3⟩ => ⟨u', h3, h1, h2, rfl⟩
 | .br true x y, v, u, h => Eff.pre_has (E := x) h
 | .br false x y, v, u, h => Eff.pre_has (E := y) h
 | .ck b x, v, u, ⟨h1, h2⟩ => let ⟨u1, h3, h4⟩ := Eff.pre_has (E := x) h2; ⟨u1, h3, h1, h4⟩
theorem updH_append : ∀ (u u' : List (Nat × Ent)) (H : Heap), updH H (u ++ u') = updH (updH H u) u'
 | [], _, _ => rfl
 | (i, e) :: r, u', H => by simp only [List.cons_append, updH, updH_append r u']
theorem updH_point {id : Nat} : ∀ (u : List (Nat × Ent)) {H1 H2 : Heap}, H1[id]? = H2[id]? → (updH H1 u)[id]? = (updH H2 u)[id]?
 | [], _, _, h => h
 | (i, e) :: r, H1, H2, h => by
  refine updH_point r ?_
  rw [List.getElem?_set, List.getElem?_set, h]
  by_cases hi : i = id
  ·subst hi
   have : i < H1.length ↔ i < H2.length := by
    rw [← Decidable.not_iff_not, Nat.not_lt, Nat.not_lt, ← List.getElem?_eq_none_iff, ← List.getElem?_eq_none_iff, h]
   simp only [if_true, this]
  ·simp only [if_neg hi]
theorem Mono.trans' {ρ : Rho} {I : Imm} {w : World} {ρ1 : Rho} {I1 : Imm} {w1 : World} {ρ2 : Rho} {I2 : Imm} {w2 : World} (a : Mono ρ I w ρ1 I1 w1) (b : Mono ρ1 I1 w1 ρ2 I2 w2) : Mono ρ I w ρ2 I2 w2 :=
 ⟨fun i x h => b.ext i x (a.ext i x h), fun x o h => ⟨(b.imm x o (a.imm x o h).1).1, ((b.imm x o (a.imm x o h).1).2).trans (a.imm x o h).2⟩,
  fun x h => ⟨(b.sz x (a.sz x h).1).1, ((b.sz x (a.sz x h).1).2).trans (a.sz x h).2⟩⟩
theorem Mono.id (ρ : Rho) (I : Imm) (w : World) : Mono ρ I w ρ I w := ⟨fun _ _ h => h, fun _ _ h => ⟨h, rfl⟩, fun _ h => ⟨h, rfl⟩⟩
def slots : Op → Nat
 | .alloc _ => 1
 | .box _ _ => 1
 | .buildSlice _ _ _ => 1
 | .makeSlice _ _ _ => 1
 | .convert _ d _ => match G.ty d with
  | some td => match td.kind with
   | .slice _ => 1
   | _ => 0
  | none => 0
 | .slice _ _ _ _ m => bif m.isSome then 1 else 0
 | .call c => match c.callee with
  | .value _ => callSlots
  | .builtin .append => 1
  | _ => 0
 | _ => 0
structure ROps where
 f : Op → (Operand → AV) → Heap → Nat → Option Eff
 congr : ∀ (op : Op) (ev ev' : Operand → AV) (H H' : Heap) (nid : Nat), (∀ x ∈ op.operands, ev' x = ev x) → (∀ id ∈ readsE ev op nid (slots G op), H'[id]? = H[id]?) → f op ev' H' nid = f op ev H nid
 sound : ∀ (ρ : Rho) (I : Imm) (H : Heap) (w : World), Conc G.g ρ I H w → ∀ (ev : Operand → AV) (e : Operand → Value), (∀ x, rel ρ I w (ev x) (e x)) → ∀ (o : Oper) (nid : Nat) (E : Eff) (v : AV) (u : List (Nat × Ent)),
  f o.op ev H nid = some E → E.has v u → EffOk G ρ I H w ((execOp e o).run P w) v u
 pre : Heap → List AV → Option (Bool × List AV × List (Nat × Ent)) := fun _ args => some (true, args, [])
 preC : ∀ (H H' : Heap) (args : List AV), (∀ a ∈ args, ∀ id ∈ refD a, H'[id]? = H[id]?) → pre H' args = pre H args := by intros; rfl
 preR : ∀ (H : Heap) (args : List AV) (p : Bool) (args' : List AV) (u : List (Nat × Ent)), pre H args = some (p, args', u) → ∀ a ∈ args', ∀ id ∈ refId0 a, ∃ b ∈ args, id ∈ refD b := by
  intro H args p args' u h a ha id hid
  simp only [Option.some.injEq, Prod.mk.injEq] at h
  obtain ⟨_, rfl, _⟩ := h
  exact ⟨a, ha, refD_of0 hid⟩
 preS : ∀ (ρ : Rho) (I : Imm) (H : Heap) (w : World), Conc G.g ρ I H w → ∀ (args args' : List AV) (u : List (Nat × Ent)), pre H args = some (true, args', u) →
   ∃ I', Good ρ I H w ρ I' (updH H u) w ∧ Conc G.g ρ I' (updH H u) w ∧ Mono ρ I w ρ I' w ∧ ∀ vs, RV ρ I w args vs → RV ρ I' w args' vs := by
  intro ρ I H w c args args' u h
  simp only [Option.some.injEq, Prod.mk.injEq] at h
  obtain ⟨_, rfl, rfl⟩ := h
  exact ⟨I, Good.refl _ _ _ _, c, Mono.id _ _ _, fun _ r => r⟩
def lend1 (H : Heap) : AV → Option (Bool × AV × Bool)
 | .sl id off k len => match H[id]? with
  | some (.grow k' rows _) => some ((k == k' && off == 0) && leB len rows.length, .vec false k (rows.take len), true)
  | _ => match content8 H (.sl id off k len) with
   | some (c, l) => some (c, .vec8 false l, true)
   | none => none
 | .slv _ k n f => some (true, .vecr false k n f, false)
 | a => some (true, a, false)
def lend (H : Heap) : List AV → Option (Bool × List AV × Bool)
 | [] => some (true, [], false)
 | a :: as => match lend1 H a with
  | some (c, x, b) => match lend H as with
   | some (d, xs, b') => some (c && d, x :: xs, b || b')
   | none => none
  | none => none
def outE (b : Bool) (H : Heap) (nid : Nat) : Out → Eff
 | .ret v H0 => .ck (leB H0.length callSlots && slotsOk H nid H0) (.ck (!b || (nvA v && H0.all nvE)) (.one true (renA (shift nid) v) (newsFrom (shift nid) nid H0)))
 | .alt d x y => .br d (outE b H nid x) (outE b H nid y)
structure GCall (f : FuncId) (args : List AV) (v : AV) : Prop where
 pv : pureA v = true
 call : ∃ k n fr rest, args = .slv 0 k n fr :: rest ∧ pureL rest = true ∧ ACall G f args [.tail k n] (fun v' _ => v' = v)
def CallOk (f : FuncId) (args : List AV) (out : Out) : Prop := HCall G f args out ∨ ∃ v a, out = .ret v [] ∧ args = [.tup [], .tup a] ∧ GCall G f a v
structure Ctr where
 C : FuncId → List AV → Option (Bool × Out)
 ok : ∀ f args pre out, C f args = some (pre, out) → pre = true → CallOk G f args out
def giftE (C : FuncId → List AV → Option (Bool × Out)) (f : FuncId) (args : List AV) (H : Heap) : Option Eff :=
 match args with
 | .slv id k n fr :: rest => match C f [.tup [], .tup (.slv 0 k n fr :: rest)] with
  | some (pre, .ret v []) => match H[id]? with
   | some (.tail k' n') => some (.ck (G.go f) (.ck ((k == k' && n == n') && (pureL rest && pureA v)) (.ck pre (.one true v [(id, .dead)]))))
   | _ => none
  | _ => none
 | _ => none
def callE (C : FuncId → List AV → Option (Bool × Out)) (f : FuncId) (args : List AV) (H : Heap) (nid : Nat) : Option Eff :=
 match lend H args with
 | some (c, args', b) => match C f args' with
  | some (pre, out) => some (.ck (G.go f) (.ck (pureL args') (.ck c (.ck pre (outE b H nid out)))))
  | none => none
 | none => none
def amem (op : Op) (ev : Operand → AV) (H : Heap) (nid : Nat) : Option Eff :=
 match op with
 | .alloc t => match G.ty t with
  | some ti => match ti.zero with
   | some z => some (.one (known z && isRes H nid) (.ptr nid 0) [(nid, .blk z.cells [])])
   | none => none
  | none => none
 | .box _ x => some (.one (known (ev x) && isRes H nid) (.ptr nid 0) [(nid, .blk (ev x).cells [])])
 | .store t a x => match astore G (.store t a x) ev H with
  | some (c, id, e) => some (.one c (.tup []) [(id, e)])
  | none => none
 | _ => none
def eff (R : ROps G) (C : FuncId → List AV → Option (Bool × Out)) (op : Op) (ev : Operand → AV) (H : Heap) (nid : Nat) : Option Eff :=
 match aval0 G op ev H with
 | some (c, v) => some (.one c v [])
 | none => match amem G op ev H nid with
  | some E => some E
  | none => match R.f op ev H nid with
   | some E => some E
   | none => match acall op ev with
    | some (f, args) => match giftE G C f args H with
     | some E => some E
     | none => match R.pre H args with
      | some (p, args1, u) => match callE G C f args1 (updH H u) nid with
       | some E => some (.ck p (E.pre u))
       | none => none
      | none => none
    | none => none
end
section
variable {P : Program} {G : Env P} {ρ : Rho} {I : Imm} {H : Heap} {w : World}
theorem refId_load {ev : Operand → AV} {H H' : Heap} {a : Operand} (hr : ∀ id ∈ refId (ev a), H'[id]? = H[id]?) : (∀ ti, aload ti H' (ev a) = aload ti H (ev a)) ∧ content8 H' (ev a) = content8 H (ev a) ∧ lend1 H' (ev a) = lend1 H (ev a) := by
 cases h2 : ev a <;> rw [h2] at hr <;> simp only [refId, List.mem_singleton, forall_eq, List.not_mem_nil, false_implies, implies_true] at hr <;> simp [aload, cellsAt, cellsAtX, entCells, content8, lend1, *]
theorem map_ev_congr {ev ev' : Operand → AV} {l : List Operand} (h : ∀ x ∈ l, ev' x = ev x) : l.map ev' = l.map ev := List.map_congr_left h
theorem mem_refIds {ev : Operand → AV} {l : List Operand} {x : Operand} {id : Nat} (hx : x ∈ l) (h : id ∈ refId (ev x)) : id ∈ refIds ev l := List.mem_flatMap.2 ⟨x, hx, h⟩
theorem aval0_congr {op : Op} {ev ev' : Operand → AV} {H H' : Heap} {nid : Nat} (he : ∀ x ∈ op.operands, ev' x = ev x)
  (hr : ∀ id ∈ readsE ev op nid (slots G op), H'[id]? = H[id]?) : aval0 G op ev' H' = aval0 G op ev H := by
 cases op with
 | load t a =>
  have h1 := he a (by simp [Op.operands])
  simp only [aval0, h1]
  have := (refId_load (H := H) (H' := H') (ev := ev) (a := a) hr).1
  simp only [this]
 | convert t d x =>
  have h1 := he x (by simp [Op.operands])
  simp only [aval0, h1]
  have h8 := (refId_load (H := H) (H' := H') (ev := ev) (a := x) fun id hid => hr id (by simp only [readsE, Op.operands]; exact List.mem_append_left _ (mem_refIds (by simp) hid))).2.1
  have : ∀ ti td, aConvert G ti td H' (ev x) = aConvert G ti td H (ev x) := by
   intro ti td
   simp only [aConvert, h8]
  simp only [this]
 | call c =>
  have hargs : c.args.toList.map ev' = c.args.toList.map ev := map_ev_congr fun x hx => he x (by simp [Op.operands, Call.operands]; right; simpa using hx)
  simp only [aval0, hargs]
  split
  ·rename_i fo hfo
   have := he fo (by simp [Op.operands, Call.operands, hfo])
   rw [this]
  ·rfl
  ·rfl
  ·rfl
  ·rfl
 | makeFunc fn first caps =>
  have h1 : first.toList.map ev' = first.toList.map ev := map_ev_congr fun x hx => he x (by simp [Op.operands]; left; simpa using hx)
  have h2 : caps.toList.map ev' = caps.toList.map ev := map_ev_congr fun x hx => he x (by simp [Op.operands]; right; simpa using hx)
  simp only [aval0, h1, h2]
 | build t parts =>
  have h1 : (parts.toList.map fun p => (p.1, ev' p.2)) = parts.toList.map fun p => (p.1, ev p.2) :=
   List.map_congr_left fun p hp => by rw [he p.2 (by simp [Op.operands]; exact ⟨p.1, by simpa using hp⟩)]
  simp only [aval0, h1]
 | move x => simp only [aval0, he x (by simp [Op.operands])]
 | assign x => simp only [aval0, he x (by simp [Op.operands])]
 | pick c a b => simp only [aval0, he c (by simp [Op.operands]), he a (by simp [Op.operands]), he b (by simp [Op.operands])]
 | extract t i => simp only [aval0, he t (by simp [Op.operands])]
 | fieldAddr s x f => simp only [aval0, he x (by simp [Op.operands])]
 | indexAddr t x i => simp only [aval0, he x (by simp [Op.operands]), he i (by simp [Op.operands])]
 | index t x i => simp only [aval0, he x (by simp [Op.operands]), he i (by simp [Op.operands])]
 | field t x f => simp only [aval0, he x (by simp [Op.operands])]
 | binOp op t x y ty => simp only [aval0, he x (by simp [Op.operands]), he y (by simp [Op.operands])]
 | unOp op t x => simp only [aval0, he x (by simp [Op.operands])]
 | nilCheck x => simp only [aval0, he x (by simp [Op.operands])]
 | _ => rfl
theorem acall_congr {op : Op} {ev ev' : Operand → AV} (he : ∀ x ∈ op.operands, ev' x = ev x) : acall op ev' = acall op ev := by
 cases op with
 | call c =>
  have hargs : c.args.toList.map ev' = c.args.toList.map ev := map_ev_congr fun x hx => he x (by simp [Op.operands, Call.operands]; right; simpa using hx)
  simp only [acall, hargs]
  split
  ·rename_i fo hfo
   have := he fo (by simp [Op.operands, Call.operands, hfo])
   rw [this]
  ·rfl
 | _ => rfl
theorem refA_lend {a : AV} {H H' : Heap} (hr : ∀ id ∈ refId0 a, H'[id]? = H[id]?) : lend1 H' a = lend1 H a := by
 cases a <;> simp only [refId0, List.mem_singleton, forall_eq, List.not_mem_nil, false_implies, implies_true] at hr <;> simp [lend1, content8, hr]
theorem lend_congr {H H' : Heap} : ∀ {args : List AV}, (∀ a ∈ args, ∀ id ∈ refId0 a, H'[id]? = H[id]?) → lend H' args = lend H args
 | [], _ => rfl
 | a :: as, h => by
  simp only [lend, refA_lend (h a (by simp)), lend_congr (args := as) fun x hx => h x (by simp [hx])]
theorem slotsOk_congr {H H' : Heap} : ∀ {H0 : Heap} {nid : Nat}, (∀ j, j < H0.length → H'[nid + j]? = H[nid + j]?) → slotsOk H' nid H0 = slotsOk H nid H0
 | [], _, _ => rfl
 | e :: r, nid, h => by
  have h0 : isRes H' nid = isRes H nid := by unfold isRes; rw [show H'[nid]? = H[nid]? from h 0 (by simp)]
  have h1 : slotsOk H' (nid + 1) r = slotsOk H (nid + 1) r := slotsOk_congr fun j hj => by
   have := h (j + 1) (by simpa using hj)
   rwa [show nid + (j + 1) = nid + 1 + j by omega] at this
  simp only [slotsOk, h0, h1]
theorem outE_congr {b : Bool} {H H' : Heap} {nid : Nat} (h : ∀ j, j < callSlots → H'[nid + j]? = H[nid + j]?) : ∀ (out : Out), outE b H' nid out = outE b H nid out
 | .ret v H0 => by
  simp only [outE]
  cases hl : leB H0.length callSlots
  ·simp
  ·rw [slotsOk_congr fun j hj => h j (by have := leB_iff.1 hl; omega)]
 | .alt d x y => by simp only [outE, outE_congr h x, outE_congr h y]
theorem callE_congr {C : FuncId → List AV → Option (Bool × Out)} {f : FuncId} {args : List AV} {H H' : Heap} {nid : Nat} (h1 : ∀ a ∈ args, ∀ id ∈ refId0 a, H'[id]? = H[id]?) (h2 : ∀ j, j < callSlots → H'[nid + j]? = H[nid + j]?) :
  callE G C f args H' nid = callE G C f args H nid := by
 simp only [callE, lend_congr h1, outE_congr h2]
theorem astore_congr {t : Nat} {a y : Operand} {ev ev' : Operand → AV} {H H' : Heap} (h1 : ev' a = ev a) (h2 : ev' y = ev y) (hr : ∀ id ∈ refId (ev a), H'[id]? = H[id]?) :
  astore G (.store t a y) ev' H' = astore G (.store t a y) ev H := by
 simp only [astore, h1, h2]
 cases hq : ev a <;> rw [hq] at hr <;> simp only [refId, List.mem_singleton, forall_eq, List.not_mem_nil, false_implies, implies_true] at hr <;> simp [hr]
theorem amem_congr {op : Op} {ev ev' : Operand → AV} {H H' : Heap} {nid : Nat} (he : ∀ x ∈ op.operands, ev' x = ev x)
  (hr : ∀ id ∈ readsE ev op nid (slots G op), H'[id]? = H[id]?) : amem G op ev' H' nid = amem G op ev H nid := by
 cases op with
 | alloc t => simp only [amem, isRes, hr nid (by simp [readsE, slots, upTo])]
 | box t x => simp only [amem, he x (by simp [Op.operands]), isRes, hr nid (by simp [readsE, slots, upTo])]
 | store t a x => simp only [amem, astore_congr (G := G) (he a (by simp [Op.operands])) (he x (by simp [Op.operands])) hr]
 | _ => rfl
theorem giftE_congr {C : FuncId → List AV → Option (Bool × Out)} {f : FuncId} {args : List AV} {H H' : Heap} (h : ∀ a ∈ args, ∀ id ∈ refD a, H'[id]? = H[id]?) : giftE G C f args H' = giftE G C f args H := by
 unfold giftE
 split
 ·rename_i id k n fr rest
  rw [h _ (List.mem_cons_self ..) id (by simp [refD])]
 ·rfl
theorem eff_congr {R : ROps G} {C : FuncId → List AV → Option (Bool × Out)} {op : Op} {ev ev' : Operand → AV} {H H' : Heap} {nid : Nat} (he : ∀ x ∈ op.operands, ev' x = ev x)
  (hr : ∀ id ∈ readsE ev op nid (slots G op), H'[id]? = H[id]?) : eff G R C op ev' H' nid = eff G R C op ev H nid := by
 unfold eff
 rw [aval0_congr he hr, amem_congr he hr, R.congr op ev ev' H H' nid he hr, acall_congr he]
 cases aval0 G op ev H with
 | some p => rfl
 | none => cases amem G op ev H nid with
  | some p => rfl
  | none => cases R.f op ev H nid with
   | some p => rfl
   | none =>
    cases hc : acall op ev with
    | none => rfl
    | some p =>
     obtain ⟨f, args⟩ := p
     simp only
     cases op with
     | call c =>
      have hd : ∀ a ∈ args, ∀ id ∈ refD a, H'[id]? = H[id]? := by
       intro a ha id hid
       simp only [acall] at hc
       split at hc
       ·rename_i fo hfo
        split at hc
        ·rename_i f' first caps hfo'
         simp only [Option.some.injEq, Prod.mk.injEq] at hc
         obtain ⟨_, rfl⟩ := hc
         have hm : ∀ x ∈ c.args.toList, id ∈ refId (ev x) → H'[id]? = H[id]? := fun x hx h => hr id (by
          simp only [readsE]
          exact List.mem_append_left _ (mem_refIds (by simp [Op.operands, Call.operands]; right; simpa using hx) h))
         have hf : id ∈ refId (ev fo) → H'[id]? = H[id]? := fun h => hr id (by
          simp only [readsE]
          exact List.mem_append_left _ (mem_refIds (by simp [Op.operands, Call.operands, hfo]) h))
         rw [hfo'] at hf
         simp only [refId, List.mem_append, List.mem_flatMap] at hf
         rcases List.mem_append.1 ha with h | h
         ·exact hf (.inl ⟨a, h, hid⟩)
         ·rcases List.mem_append.1 h with h | h
          ·obtain ⟨x, hx, rfl⟩ := List.mem_map.1 h
           exact hm x hx (refD_sub hid)
          ·exact hf (.inr ⟨a, h, hid⟩)
        ·simp at hc
       ·simp at hc
      rw [giftE_congr hd, R.preC H H' args hd]
      cases giftE G C f args H with
      | some E => rfl
      | none =>
      simp only
      split
      case h_2 => rfl
      rename_i p args1 u hpre
      rw [callE_congr (args := args1) (H := updH H u) (H' := updH H' u) (fun a ha id hid => by
       obtain ⟨b, hb, hid'⟩ := R.preR _ _ _ _ _ hpre a ha id hid
       exact updH_point u (hd b hb id hid')) (fun j hj => updH_point u ?_)]
      ·refine hr _ ?_
       simp only [readsE]
       refine List.mem_append_right _ ?_
       simp only [acall] at hc
       split at hc
       ·rename_i fo hfo
        simp only [slots, hfo]
        simp only [callSlots] at hj
        simp only [callSlots, upTo, List.mem_cons, List.not_mem_nil, or_false]
        omega
       ·simp at hc
     | _ => simp [acall] at hc
end
end
noncomputable section
section
variable {P : Program} {G : Env P} {ρ : Rho} {I : Imm} {H : Heap} {w : World}
theorem RL_rowsTake {k : Nat} : ∀ {rows : List AV} {vs : List Value} (n : Nat), (∀ a ∈ rows, szA a = k) → RL ρ I w rows vs → RL ρ I w (rows.take n) (vs.take (n * k))
 | _, _, 0, _, _ => by simp [RL]
 | [], _, n + 1, _, h => by cases h; simp [RL]
 | a :: as, _, n + 1, hk, ⟨ys, zs, h0, h1, h2⟩ => by
  subst h0
  have hl := R_len a ys h1
  rw [hk a (by simp)] at hl
  rw [List.take_succ_cons]
  refine ⟨ys, zs.take (n * k), ?_, h1, RL_rowsTake n (fun b hb => hk b (by simp [hb])) h2⟩
  rw [Nat.add_mul, Nat.one_mul, Nat.add_comm, List.take_append, hl]
  rw [List.take_of_length_le (by omega), Nat.add_sub_cancel_left]
def lentI (b : Bool) (I : Imm) (w : World) : Imm := fun x o => if b then x < w.heap.size else I x o
theorem lent_sub (c : Conc G.g ρ I H w) (b : Bool) : (∀ x o, I x o → lentI b I w x o) ∧ (∀ x o, lentI b I w x o → x < w.heap.size) := by
 refine ⟨fun x o h => ?_, fun x o h => ?_⟩ <;> unfold lentI at *
 ·split
  ·exact (c.imm x o h).1
  ·exact h
 ·split at h
  ·exact h
  ·exact (c.imm x o h).1
theorem lent_mono (c : Conc G.g ρ I H w) {b d : Bool} (hbd : b = true → d = true) : Mono ρ (lentI b I w) w ρ (lentI d I w) w :=
 ⟨fun _ _ h => h, fun x o h => ⟨by
  cases d
  ·have : b = false := by cases b <;> simp_all
   rw [this] at h; exact h
  ·exact (lent_sub c b).2 x o h, rfl⟩, fun _ h => ⟨h, rfl⟩⟩
theorem lend1_sound (c : Conc G.g ρ I H w) {a x : AV} {p b : Bool} {v : Value} (h : lend1 H a = some (p, x, b)) (hp : p = true) (r : rel ρ I w a v) : rel ρ (lentI b I w) w x v := by
 cases a with
 | sl id off k len =>
  simp only [lend1] at h
  have rs := rel_sl.1 r
  split at h
  ·rename_i k' rows f he
   simp only [Option.some.injEq, Prod.mk.injEq] at h
   obtain ⟨rfl, rfl, rfl⟩ := h
   simp only [Bool.and_eq_true, beq_iff_eq] at hp
   obtain ⟨⟨rfl, rfl⟩, hle⟩ := hp
   have hle := leB_iff.1 hle
   obtain ⟨hev, hg⟩ := c.grow id _ he rfl
   have hev' : ∀ a ∈ rows, szA a = k := hev
   refine rel_vec.2 ⟨fun a ha => hev' a (List.mem_of_mem_take ha), ?_⟩
   rcases rs with ⟨bl, cap, h1, rfl, h3, h4, h5⟩ | ⟨rfl, a, rfl⟩
   ·rcases hg with ⟨g1, _⟩ | ⟨b', el, fr, us, rest, g1, g2, g3, g4⟩
    ·rw [g1] at h1; simp at h1
    ·rw [g1] at h1
     simp only [Option.some.injEq] at h1
     subst h1
     refine ⟨us.take (len * k), RL_mono (ρ := ρ) (I := I) (w := w) ⟨fun _ _ h => h, fun x o h => ⟨(lent_sub c true).1 x o h, rfl⟩, fun _ h => ⟨h, rfl⟩⟩ _ _ (RL_rowsTake len hev' g3), some ⟨b', 0, none⟩, cap, ?_, ?_, by simp, .inr ⟨b', 0, rfl, h4, ?_⟩⟩
     ·rw [List.length_take, Nat.min_eq_left hle]
     ·rw [List.length_take, Nat.min_eq_left hle]; exact h3
     ·intro i y hy
      refine ⟨?_, by simp only [lentI, if_true]; exact h4⟩
      rw [Nat.zero_add, cell_of_heap g2]
      have hi := (List.getElem?_eq_some_iff.1 hy).1
      rw [List.getElem?_take] at hy
      split at hy
      ·rw [List.getElem?_append_left (List.getElem?_eq_some_iff.1 hy).1]; exact hy
      ·simp at hy
   ·exact ⟨[], by simp [RL], a, 0, by simp, by simp, by simp, .inl (by simp)⟩
  ·split at h
   ·rename_i c' l hc
    simp only [Option.some.injEq, Prod.mk.injEq] at h
    obtain ⟨rfl, rfl, rfl⟩ := h
    obtain ⟨y, cap, rfl, hcs⟩ := content8_sound c hc hp r
    rw [rel_vec8]
    have hcap : l.length ≤ cap := by
     rcases rs with ⟨bl, cap', h1, h2, h3, h4, h5⟩ | ⟨h1, a, h2⟩
     ·simp only [Value.slice.injEq] at h2; omega
     ·simp only [Value.slice.injEq] at h2; omega
    refine ⟨y, cap, rfl, hcap, by simp, ?_⟩
    rcases hcs with rfl | ⟨b', off', rfl, hcell⟩
    ·exact .inl rfl
    ·rcases Nat.eq_zero_or_pos l.length with hz | hz
     ·exact .inl hz
     ·have hb : b' < w.heap.size := by
       have := hcell 0 _ (v8_get hz)
       unfold World.cell? at this
       split at this
       ·rename_i hq; exact (Array.getElem?_eq_some_iff.1 hq).1
       ·simp at this
      exact .inr ⟨b', off', rfl, hb, fun i y hy => ⟨hcell i y hy, by simp only [lentI, if_true]; exact hb⟩⟩
   ·simp at h
 | slv id k n f =>
  simp only [lend1, Option.some.injEq, Prod.mk.injEq] at h
  obtain ⟨_, rfl, rfl⟩ := h
  exact rel_mono (ρ := ρ) (I := I) (w := w) ⟨fun _ _ h => h, fun x o h => ⟨(lent_sub c false).1 x o h, rfl⟩, fun _ h => ⟨h, rfl⟩⟩ (rel_slv.1 r).1
 | _ =>
  simp only [lend1, Option.some.injEq, Prod.mk.injEq] at h
  obtain ⟨_, rfl, rfl⟩ := h
  exact rel_mono (ρ := ρ) (I := I) (w := w) ⟨fun _ _ h => h, fun x o h => ⟨(lent_sub c false).1 x o h, rfl⟩, fun _ h => ⟨h, rfl⟩⟩ r
theorem lend_sound (c : Conc G.g ρ I H w) : ∀ {args xs : List AV} {p b : Bool} {vs : List Value}, lend H args = some (p, xs, b) → p = true → RV ρ I w args vs → RV ρ (lentI b I w) w xs vs
 | [], xs, p, b, vs, h, _, r => by
  simp only [lend, Option.some.injEq, Prod.mk.injEq] at h
  obtain ⟨_, rfl, _⟩ := h
  exact r
 | a :: as, xs, p, b, vs, h, hp, r => by
  simp only [lend] at h
  split at h
  ·rename_i c1 x b1 h1
   split at h
   ·rename_i d ys b2 h2
    simp only [Option.some.injEq, Prod.mk.injEq] at h
    obtain ⟨rfl, rfl, rfl⟩ := h
    simp only [Bool.and_eq_true] at hp
    obtain ⟨y, zs, rfl, k1, k2⟩ := RV_cons.1 r
    refine RV_cons.2 ⟨y, zs, rfl, ?_, ?_⟩
    ·exact rel_mono (lent_mono c (by intro h; simp [h])) (lend1_sound c h1 hp.1 k1)
    ·exact RV_mono (lent_mono c (by intro h; simp [h])) _ _ (lend_sound c h2 hp.2 k2)
   ·simp at h
  ·simp at h
theorem outE_has {b : Bool} {H : Heap} {nid : Nat} : ∀ {out : Out} {v : AV} {u : List (Nat × Ent)}, (outE b H nid out).has v u →
  ∃ v0 H0, out.has v0 H0 ∧ v = renA (shift nid) v0 ∧ u = newsFrom (shift nid) nid H0 ∧ slotsOk H nid H0 = true ∧ (b = true → nvA v0 = true ∧ H0.all nvE = true)
 | .ret v0 H0, v, u, h => by
  obtain ⟨h1, h3, _, h4, h5⟩ := h
  simp only [Bool.and_eq_true, Bool.or_eq_true, Bool.not_eq_true'] at h1 h3
  exact ⟨v0, H0, ⟨rfl, rfl⟩, h4, h5, h1.2, fun hb => h3.resolve_left (by simp [hb])⟩
 | .alt true x y, v, u, h => outE_has (out := x) h
 | .alt false x y, v, u, h => outE_has (out := y) h
theorem Out.has_det : ∀ {out : Out} {v v' : AV} {H H' : Heap}, out.has v H → out.has v' H' → v' = v ∧ H' = H
 | .ret v0 H0, _, _, _, _, ⟨h1, h2⟩, ⟨h3, h4⟩ => ⟨h3.trans h1.symm, h4.trans h2.symm⟩
 | .alt true x y, _, _, _, _, h, h' => Out.has_det (out := x) h h'
 | .alt false x y, _, _, _, _, h, h' => Out.has_det (out := y) h h'
theorem amem_sound (c : Conc G.g ρ I H w) {ev : Operand → AV} {e : Operand → Value} (r : ∀ x, rel ρ I w (ev x) (e x)) {o : Oper} {nid : Nat} {E : Eff} {v : AV} {u : List (Nat × Ent)}
  (h : amem G o.op ev H nid = some E) (hh : E.has v u) : EffOk G ρ I H w ((execOp e o).run P w) v u := by
 unfold amem at h
 split at h
 ·rename_i t hop
  split at h
  ·rename_i ti hti
   split at h
   ·rename_i z hz
    simp only [Option.some.injEq] at h
    subst h
    obtain ⟨hc, rfl, rfl⟩ := hh
    simp only [Bool.and_eq_true, isRes_iff] at hc
    obtain ⟨j, d, h1, h2, h3, _, h5, h6, _⟩ := ty_ok hti
    obtain ⟨zv, hzv, hck⟩ := h6 z hz
    have hrun : (execOp e o).run P w = .ok (.value (.pointer (some ⟨w.heap.size, 0, none⟩))) (w.alloc (.cells zv.cells t)) := by
     simp [execOp, hop, Instr.alloc, zeroValue, run_typeInfo h1, hzv, newVar, newRow]
    have hr := R_cells (known_cells (chkV_sound hck ρ I w) hc.1)
    obtain ⟨g1, g2, g3⟩ := fill_gen (w' := w.alloc (.cells zv.cells t)) c hc.2 (.blk z.cells []) (some w.heap.size) (fun b hb => by simp at hb; subst hb; simp) (by simp) (fun b hb => alloc_old w _ hb) rfl
     (fun cs f he => by
      simp only [Ent.blk.injEq] at he
      obtain ⟨rfl, rfl⟩ := he
      exact ⟨_, t, (0, 0), zv.cells.toList, rfl, by simpa using alloc_new w _, hr, Nat.le_refl _, fun o _ => by simp⟩) (fun h => by simp [Ent.grows] at h) rfl rfl rfl
    exact ⟨_, _, .inl hrun, _, _, g1, g2, g3, rel_ptr.2 ⟨w.heap.size, by simp [bindR], rfl⟩⟩
   ·simp at h
  ·simp at h
 ·rename_i t x hop
  simp only [Option.some.injEq] at h
  subst h
  obtain ⟨hc, rfl, rfl⟩ := hh
  simp only [Bool.and_eq_true, isRes_iff] at hc
  have hrun : (execOp e o).run P w = .ok (.value (.pointer (some ⟨w.heap.size, 0, none⟩))) (w.alloc (.cells (e x).cells t)) := by
   simp [execOp, hop, Instr.box, newVar, newRow]
  have hr := R_cells (known_cells (r x) hc.1)
  obtain ⟨g1, g2, g3⟩ := fill_gen (w' := w.alloc (.cells (e x).cells t)) c hc.2 (.blk (ev x).cells []) (some w.heap.size) (fun b hb => by simp at hb; subst hb; simp) (by simp) (fun b hb => alloc_old w _ hb) rfl
   (fun cs f he => by
    simp only [Ent.blk.injEq] at he
    obtain ⟨rfl, rfl⟩ := he
    exact ⟨_, t, (0, 0), (e x).cells.toList, rfl, by simpa using alloc_new w _, hr, Nat.le_refl _, fun o _ => by simp⟩) (fun h => by simp [Ent.grows] at h) rfl rfl rfl
  exact ⟨_, _, .inl hrun, _, _, g1, g2, g3, rel_ptr.2 ⟨w.heap.size, by simp [bindR], rfl⟩⟩
 ·rename_i t a x hop
  split at h
  ·rename_i b id e1 hs
   simp only [Option.some.injEq] at h
   subst h
   obtain ⟨hc, rfl, rfl⟩ := hh
   obtain ⟨w', h1, h2, h3, h4⟩ := store_sound c r hop hs hc
   exact ⟨undef, w', .inr ⟨h1, rfl⟩, ρ, I, h2, h3, h4, rel_undef⟩
  ·simp at h
 ·simp at h
def After (G : Env P) (ρ : Rho) (I : Imm) (H : Heap) (w : World) (a : Act) (o : Oper) (v : AV) (u : List (Nat × Ent)) (next : Act → World → Prop) : Prop :=
 ∀ (ρ' : Rho) (I' : Imm) (x : Value) (w' : World), Good ρ I H w ρ' I' (updH H u) w' → Conc G.g ρ' I' (updH H u) w' → Mono ρ I w ρ' I' w' → rel ρ' I' w' v x → next (a.put o.dst x) w'
theorem EffOk.upon {v : AV} {u : List (Nat × Ent)} {o : Oper} {a : Act} {next : Act → World → Prop} {Q : Exit → Act → World → Prop} {res : Result Next} (h : EffOk G ρ I H w res v u) (hn : After G ρ I H w a o v u next) : o.upon P a next Q res := by
 obtain ⟨x, w', hres, ρ', I', h1, h2, h3, h4⟩ := h
 rcases hres with rfl | ⟨rfl, rfl⟩
 ·exact hn ρ' I' x w' h1 h2 h3 h4
 ·exact hn ρ' I' undef w' h1 h2 h3 h4
theorem GCall.frame {f : FuncId} {v : AV} {id k n : Nat} {fr : Nat → List AV} {rest : List AV} (h : GCall G f (.slv 0 k n fr :: rest) v) (c : Conc G.g ρ I H w) (hid : H[id]? = some (.tail k n)) {vs : List Value} (r : RV ρ I w (.slv id k n fr :: rest) vs) :
  Calls P f vs.toArray w fun e w' => ∃ x, e = .returned x ∧ ∃ (ρ' : Rho) (I' : Imm), Good ρ I H w ρ' I' (updH H [(id, .dead)]) w' ∧ Conc G.g ρ' I' (updH H [(id, .dead)]) w' ∧ Mono ρ I w ρ' I' w' ∧ rel ρ' I' w' v x := by
 obtain ⟨hpv, k', n', fr', rest', hargs, hrest, hcall⟩ := h
 simp only [List.cons.injEq, AV.slv.injEq, true_and] at hargs
 obtain ⟨⟨rfl, rfl, rfl⟩, rfl⟩ := hargs
 let ρ0 : Rho := fun j => if j = 0 then ρ id else none
 have mut0 : ∀ b o, Mut ρ0 [.tail k n] b o → Mut ρ H b o := by
  rintro b o ⟨i, e, h1, h2, h3, h4⟩
  cases i with
  | zero =>
   simp only [List.getElem?_cons_zero, Option.some.injEq] at h1
   subst h1
   exact ⟨id, _, hid, h2, h3, h4⟩
  | succ i => simp at h1
 have gone : ∀ i e, (updH H [(id, .dead)])[i]? = some e → (i = id ∧ e = .dead) ∨ (i ≠ id ∧ H[i]? = some e) := by
  intro i e h1
  simp only [updH] at h1
  rw [List.getElem?_set] at h1
  by_cases hi : id = i
  ·subst hi
   rw [if_pos rfl] at h1
   split at h1
   ·simp only [Option.some.injEq] at h1; exact .inl ⟨rfl, h1.symm⟩
   ·simp at h1
  ·rw [if_neg hi] at h1; exact .inr ⟨fun e => hi e.symm, h1⟩
 have c0 : Conc G.g ρ0 I [.tail k n] w := by
  refine ⟨?_, ?_, ?_, ?_, ?_, ?_, ?_, c.glob⟩
  ·intro j hj
   by_cases h : j = 0
   ·subst h; simp
   ·exact absurd (if_neg h) hj
  ·intro j hj
   cases j <;> simp at hj
  ·intro j b hj
   by_cases h : j = 0
   ·subst h; exact c.blt id b hj
   ·rw [show ρ0 j = none from if_neg h] at hj; simp at hj
  ·intro i j b e e' h1 _ h2 _ _ _
   cases i with
   | zero => cases j with
    | zero => rfl
    | succ j => simp at h2
   | succ i => simp at h1
  ·intro j cs f hj
   cases j <;> simp at hj
  ·intro j e hj hg
   cases j with
   | zero =>
    simp only [List.getElem?_cons_zero, Option.some.injEq] at hj
    subst hj
    obtain ⟨q, hq⟩ := c.grow id _ hid hg
    refine ⟨q, ?_⟩
    rcases hq with hq | ⟨b, el, f', us, rs, q1, q2, q3, q4⟩
    ·exact .inl hq
    ·exact .inr ⟨b, el, f', us, rs, q1, q2, RL_refs (n := 0) (fun _ h => by omega) _ _ rfl q3, q4⟩
   | succ j => simp at hj
  ·exact fun b o hb => ⟨(c.imm b o hb).1, fun hm => (c.imm b o hb).2 (mut0 b o hm)⟩
 have r0 : RV ρ0 I w (.slv 0 k n fr :: rest) vs := by
  obtain ⟨x, xs, rfl, k1, k2⟩ := RV_cons.1 r
  refine RV_cons.2 ⟨x, xs, rfl, ?_, RV_pure hrest k2⟩
  obtain ⟨j1, j2⟩ := rel_slv.1 k1
  exact rel_slv.2 ⟨rel_pure rfl j1, j2⟩
 refine (hcall ρ0 I w vs c0 r0).mono ?_
 rintro e w' ⟨x, rfl, ρ1, I1, v1, H1, g, c', hr, rfl⟩
 have hblk : ∀ i e b, H[i]? = some e → e.live = true → i ≠ id → ρ i = some (some b) → w'.heap[b]? = w.heap[b]? := by
  intro i e b h1 h2 h3 h4
  refine g.block b (c.blt i b h4) ?_
  rintro o ⟨j, e', q1, q2, q3, _⟩
  cases j with
  | zero => exact h3 (c.inj i id b e _ h1 h2 hid rfl h4 q3)
  | succ j => simp at q1
 have gd : Good ρ I H w ρ I1 (updH H [(id, .dead)]) w' := by
  refine ⟨fun _ _ h => h, ?_, by rw [updH_len]; exact Nat.le_refl _, g.imm, ?_, g.os, g.tape, g.out, g.size, ?_, ?_, g.bs, ?_, ?_⟩
  ·rintro i y _ ⟨e, h1, h2⟩
   rcases gone i e h1 with ⟨_, rfl⟩ | ⟨_, h⟩
   ·simp [Ent.grows] at h2
   ·exact ⟨e, h, h2⟩
  ·intro b o hb h
   rcases g.imm' b o hb h with h | h
   ·exact .inl h
   ·exact .inr (mut0 b o h)
  ·exact fun b o hb h => g.cell b o hb fun hm => h (mut0 b o hm)
  ·exact fun b hb h => g.block b hb fun o hm => h o (mut0 b o hm)
  ·rintro b o _ ⟨i, e, h1, h2, h3, h4⟩
   rcases gone i e h1 with ⟨_, rfl⟩ | ⟨_, h⟩
   ·simp [Ent.live] at h2
   ·exact ⟨i, e, h, h2, h3, h4⟩
  ·rintro b _ ⟨i, e, h1, h2, h3⟩
   rcases gone i e h1 with ⟨_, rfl⟩ | ⟨_, h⟩
   ·simp [Ent.live] at h2
   ·exact ⟨i, e, h, h2, h3⟩
 have m : Mono ρ I w ρ I1 w' := c.mono gd fun _ _ h => h
 refine ⟨x, rfl, ρ, I1, gd, ⟨?_, ?_, ?_, ?_, ?_, ?_, ?_, ?_⟩, m, rel_pure hpv hr⟩
 ·intro i hi
  rw [updH_len]; exact c.dom i hi
 ·intro i h1
  rcases gone i _ h1 with ⟨_, h⟩ | ⟨_, h⟩
  ·simp at h
  ·exact c.res i h
 ·exact fun i b hb => Nat.lt_of_lt_of_le (c.blt i b hb) g.size
 ·intro i j b e e' h1 l1 h2 l2 hb hb'
  rcases gone i e h1 with ⟨_, rfl⟩ | ⟨_, q1⟩
  ·simp [Ent.live] at l1
  ·rcases gone j e' h2 with ⟨_, rfl⟩ | ⟨_, q2⟩
   ·simp [Ent.live] at l2
   ·exact c.inj i j b e e' q1 l1 q2 l2 hb hb'
 ·intro i cs f' h1
  rcases gone i _ h1 with ⟨_, h⟩ | ⟨hne, q⟩
  ·simp at h
  ·obtain ⟨b, el, fr', us, q1, q2, q3, q4⟩ := c.blk i cs f' q
   exact ⟨b, el, fr', us, q1, by rw [hblk i _ b q rfl hne q1]; exact q2, RL_mono m _ _ q3, q4⟩
 ·intro i e h1 hg
  rcases gone i _ h1 with ⟨_, rfl⟩ | ⟨hne, q⟩
  ·simp [Ent.grows] at hg
  ·obtain ⟨ev, hq⟩ := c.grow i e q hg
   refine ⟨ev, ?_⟩
   rcases hq with hq | ⟨b, el, f', us, rs, q1, q2, q3, q4⟩
   ·exact .inl hq
   ·exact .inr ⟨b, el, f', us, rs, q1, by rw [hblk i e b q (by cases e <;> simp_all [Ent.grows, Ent.live]) hne q1]; exact q2, RL_mono m _ _ q3, q4⟩
 ·intro b o hb
  refine ⟨(c'.imm b o hb).1, ?_⟩
  rintro ⟨i, e, h1, h2, h3, h4⟩
  rcases gone i _ h1 with ⟨_, rfl⟩ | ⟨hne, q⟩
  ·simp [Ent.live] at h2
  ·rcases g.imm' b o (c.blt i b h3) hb with h | ⟨j, e', q1, q2, q3, _⟩
   ·exact (c.imm b o h).2 ⟨i, e, q, h2, h3, h4⟩
   ·cases j with
    | zero => exact hne (c.inj i id b e _ q h2 hid rfl h3 q3)
    | succ j => simp at q1
 ·intro a cs ha
  obtain ⟨us, k1, k2⟩ := c.glob a cs ha
  exact ⟨us, GL_mono m k1, k2.mono m.imm⟩
theorem eff_sound (R : ROps G) (T : Ctr G) (c : Conc G.g ρ I H w) {t : List AV} {a : Act} (r : RelT ρ I w t a) {o : Oper} {nid : Nat} {E : Eff} {v : AV} {u : List (Nat × Ent)}
  (h : eff G R T.C o.op (evA G t) H nid = some E) (hh : E.has v u) {next : Act → World → Prop} {Q : Exit → Act → World → Prop} (hn : After G ρ I H w a o v u next) : o.wp P a w next Q := by
 have re := rel_evA c r
 unfold eff at h
 unfold Oper.wp
 split at h
 ·rename_i b v' hv
  simp only [Option.some.injEq] at h
  subst h
  obtain ⟨hc, rfl, rfl⟩ := hh
  obtain ⟨x, h1, h2⟩ := aval0_sound c re hv hc
  exact EffOk.upon ⟨x, w, .inl h1, ρ, I, Good.refl _ _ _ _, c, ⟨fun _ _ h => h, fun _ _ h => ⟨h, rfl⟩, fun _ h => ⟨h, rfl⟩⟩, h2⟩ hn
 ·split at h
  ·rename_i E' hv
   simp only [Option.some.injEq] at h
   subst h
   exact EffOk.upon (amem_sound c re hv hh) hn
  ·split at h
   ·rename_i E' hv
    simp only [Option.some.injEq] at h
    subst h
    exact EffOk.upon (R.sound ρ I H w c _ _ re o nid E' v u hv hh) hn
   ·split at h
    ·rename_i f args0 hcall
     split at h
     ·rename_i E' hg
      simp only [Option.some.injEq] at h
      subst h
      unfold giftE at hg
      split at hg
      ·rename_i id k n fr rest
       split at hg
       ·rename_i pre v0 hC
        split at hg
        ·rename_i k' n' hid
         simp only [Option.some.injEq] at hg
         subst hg
         obtain ⟨hgo, hb, hpre, _, rfl, rfl⟩ := hh
         simp only [Bool.and_eq_true, beq_iff_eq] at hb
         obtain ⟨⟨rfl, rfl⟩, hpr, hpv⟩ := hb
         obtain ⟨vs, h1, h2⟩ := acall_run re hcall (G.goOk f hgo)
         rw [h1]
         rcases T.ok f _ pre _ hC hpre with hc | ⟨v1, a1, hv1, ha1, hc⟩
         ·have := hc.pa
          simp [pureL, pureA] at this
         ·simp only [Out.ret.injEq, and_true] at hv1
          subst hv1
          simp only [List.cons.injEq, AV.tup.injEq, true_and, and_true] at ha1
          subst ha1
          have := hc.frame c hid h2
          rw [Array.toArray_toList] at this
          refine Calls.mono this ?_
          rintro e w' ⟨x, rfl, ρ', I', k2, k3, k4, k5⟩
          exact hn ρ' I' x w' k2 k3 k4 k5
        ·simp at hg
       ·simp at hg
      ·simp at hg
     rename_i hnog
     clear hnog
     split at h
     case h_2 => cases h
     rename_i p args u0 hpr
     split at h
     case h_2 => cases h
     rename_i E0 h0
     simp only [Option.some.injEq] at h
     subst h
     obtain ⟨hp0, hh⟩ := hh
     subst hp0
     obtain ⟨u1, rfl, hh1⟩ := Eff.pre_has hh
     obtain ⟨I1, d1, d2, d3, d4⟩ := R.preS ρ I H w c args0 args u0 hpr
     have h := h0
     unfold callE at h
     split at h
     ·rename_i c1 args' b hl
      split at h
      ·rename_i pre out hC
       simp only [Option.some.injEq] at h
       subst h
       obtain ⟨hgo, hpure, hc1, hpre, hh2⟩ := hh1
       obtain ⟨v0, H0, ho, rfl, rfl, hs, hnv⟩ := outE_has hh2
       obtain ⟨vs, h1, h2⟩ := acall_run re hcall (G.goOk f hgo)
       rw [h1]
       have h2 := d4 _ h2
       have hcal : HCall G f args' out := by
        rcases T.ok f args' pre out hC hpre with hc | ⟨_, _, _, rfl, hc⟩
        ·exact hc
        ·obtain ⟨_, _, _, _, _, rfl, _⟩ := hc
         simp [pureL, pureA] at hpure
       obtain ⟨i1, i2⟩ := lent_sub d2 b
       have := hcal.frame d2 i1 i2 (by
        cases b
        ·exact .inl fun x o h => h
        ·exact .inr fun v1 H1 h1 => by
          obtain ⟨rfl, rfl⟩ := Out.has_det ho h1
          exact hnv rfl) nid (fun v1 H1 h1 => by
          obtain ⟨rfl, rfl⟩ := Out.has_det ho h1
          exact hs) (lend_sound d2 hl hc1 h2)
       rw [Array.toArray_toList] at this
       refine Calls.mono this ?_
       rintro e w' ⟨x, rfl, v1, H1, ρ', I', k1, k2, k3, k4, k5⟩
       obtain ⟨rfl, rfl⟩ := Out.has_det ho k1
       exact hn ρ' I' x w' (by rw [updH_append]; exact d1.trans k2) (by rw [updH_append]; exact k3) (d3.trans' k4) k5
      ·simp at h
     ·simp at h
    ·simp at h
end
end
noncomputable section
def stuckAt : Oper → St → Prop := (sealed fun _ _ => False).val
theorem stuckAt_no {o : Oper} {s : St} (h : stuckAt o s) : False := by
 rw [stuckAt, (sealed fun (_ : Oper) (_ : St) => False).property] at h; exact h
def stuckIn : Nat → AV → Prop := (sealed fun _ _ => False).val
theorem stuckIn_no {n : Nat} {v : AV} (h : stuckIn n v) : False := by
 rw [stuckIn, (sealed fun (_ : Nat) (_ : AV) => False).property] at h; exact h
structure DEff where
 dst : Option Tmp
 val : AV
 upd : List (Nat × Ent)
 reads : List Nat
def applyE (e : DEff) (s : St) : St := ⟨putA s.t e.dst e.val, updH s.H e.upd⟩
def extH (H : Heap) : Nat → Heap
 | 0 => H
 | n + 1 => H ++ List.replicate (n + 1) .res
def trim : Nat → Heap → Heap
 | 0, H => H
 | k + 1, H => match H.getLast? with
  | some .res => trim k H.dropLast
  | _ => H
def fA (a : AV) : (AV → Prop) → Prop := AV.rec (motive_1 := fun _ => (AV → Prop) → Prop) (motive_2 := fun _ => (List AV → Prop) → Prop) (fun k => k (.any)) (fun v  k => k (.raw v)) (fun q n  k => k (.int q n)) (fun x  k => k (.u8 x)) (fun x  k => k (.u32 x)) (fun x  k => k (.u64 x)) (fun b  k => k (.bool b)) (fun s  k => k (.str s)) (fun n l  k => k (.b8 n l)) (fun n l  k => k (.w32 n l)) (fun n l  k => k (.w64 n l)) (fun n l  k => k (.n64 n l)) (fun i o  k => k (.ptr i o)) (fun i o n x  k => k (.pix i o n x)) (fun i o n l  k => k (.sl i o n l)) (fun f l  k => k (.vec8 f l)) (fun f n r _ k => k (.vec f n r)) (fun f n m r _ k => k (.vecr f n m r)) (fun i n m r _ k => k (.slv i n m r)) (fun c i _ k => k (.vp c i)) (fun c o n i _ k => k (.vpx c o n i)) (fun f a b iha ihb k => iha fun a' => ihb fun b' => k (.fn f a' b')) (fun l ih k => ih fun l' => k (.agg l')) (fun l ih k => ih fun l' => k (.tup l')) (fun k => k []) (fun _ _ iha ihl k => iha fun a' => ihl fun as' => k (a' :: as')) a
def fL (l : List AV) : (List AV → Prop) → Prop := AV.rec_1 (motive_1 := fun _ => (AV → Prop) → Prop) (motive_2 := fun _ => (List AV → Prop) → Prop) (fun k => k (.any)) (fun v  k => k (.raw v)) (fun q n  k => k (.int q n)) (fun x  k => k (.u8 x)) (fun x  k => k (.u32 x)) (fun x  k => k (.u64 x)) (fun b  k => k (.bool b)) (fun s  k => k (.str s)) (fun n l  k => k (.b8 n l)) (fun n l  k => k (.w32 n l)) (fun n l  k => k (.w64 n l)) (fun n l  k => k (.n64 n l)) (fun i o  k => k (.ptr i o)) (fun i o n x  k => k (.pix i o n x)) (fun i o n l  k => k (.sl i o n l)) (fun f l  k => k (.vec8 f l)) (fun f n r _ k => k (.vec f n r)) (fun f n m r _ k => k (.vecr f n m r)) (fun i n m r _ k => k (.slv i n m r)) (fun c i _ k => k (.vp c i)) (fun c o n i _ k => k (.vpx c o n i)) (fun f a b iha ihb k => iha fun a' => ihb fun b' => k (.fn f a' b')) (fun l ih k => ih fun l' => k (.agg l')) (fun l ih k => ih fun l' => k (.tup l')) (fun k => k []) (fun _ _ iha ihl k => iha fun a' => ihl fun as' => k (a' :: as')) l
mutual
theorem fA_eq : ∀ (a : AV) (k : AV → Prop), fA a k = k a
 | .agg l, k => fL_eq l fun l' => k (.agg l')
 | .tup l, k => fL_eq l fun l' => k (.tup l')
 | .fn f a b, k => (fL_eq a fun a' => fL b fun b' => k (.fn f a' b')).trans (fL_eq b fun b' => k (.fn f a b'))
 | .any, k => rfl
 | .raw _, k => rfl
 | .int _ _, k => rfl
 | .u8 _, k => rfl
 | .u32 _, k => rfl
 | .u64 _, k => rfl
 | .bool _, k => rfl
 | .str _, k => rfl
 | .b8 _ _, k => rfl
 | .w32 _ _, k => rfl
 | .w64 _ _, k => rfl
 | .n64 _ _, k => rfl
 | .ptr _ _, k => rfl
 | .pix _ _ _ _, k => rfl
 | .sl _ _ _ _, k => rfl
 | .vec8 _ _, k => rfl
 | .vec _ _ _, k => rfl
 | .vecr _ _ _ _, k => rfl
 | .slv _ _ _ _, k => rfl
 | .vp _ _, k => rfl
 | .vpx _ _ _ _, k => rfl
theorem fL_eq : ∀ (l : List AV) (k : List AV → Prop), fL l k = k l
 | [], k => rfl
 | a :: as, k => (fA_eq a fun a' => fL as fun as' => k (a' :: as')).trans (fL_eq as fun as' => k (a :: as'))
end
def qA (n : Nat) (a : AV) : Bool := AV.rec (motive_1 := fun _ => Bool) (motive_2 := fun _ => Bool) true (fun _ => true) (fun _ _ => true) (fun _ => true) (fun _ => true) (fun _ => true) (fun _ => true) (fun _ => true) (fun _ _ => true) (fun _ _ => true) (fun _ _ => true) (fun _ _ => true) (fun i _ => n - i != 0) (fun i _ _ _ => n - i != 0) (fun i _ _ _ => n - i != 0) (fun _ _ => true) (fun _ _ _ ih => ih) (fun _ _ _ _ _ => true) (fun i _ _ _ _ => n - i != 0) (fun _ _ ih => ih) (fun _ _ _ _ ih => ih) (fun _ _ _ iha ihb => iha && ihb) (fun _ ih => ih) (fun _ ih => ih) true (fun _ _ iha ihl => iha && ihl) a
def qL (n : Nat) (l : List AV) : Bool := AV.rec_1 (motive_1 := fun _ => Bool) (motive_2 := fun _ => Bool) true (fun _ => true) (fun _ _ => true) (fun _ => true) (fun _ => true) (fun _ => true) (fun _ => true) (fun _ => true) (fun _ _ => true) (fun _ _ => true) (fun _ _ => true) (fun _ _ => true) (fun i _ => n - i != 0) (fun i _ _ _ => n - i != 0) (fun i _ _ _ => n - i != 0) (fun _ _ => true) (fun _ _ _ ih => ih) (fun _ _ _ _ _ => true) (fun i _ _ _ _ => n - i != 0) (fun _ _ ih => ih) (fun _ _ _ _ ih => ih) (fun _ _ _ iha ihb => iha && ihb) (fun _ ih => ih) (fun _ ih => ih) true (fun _ _ iha ihl => iha && ihl) l
mutual
theorem qA_eq (n : Nat) : ∀ a : AV, qA n a = refsA n a
 | .agg l => qL_eq n l
 | .tup l => qL_eq n l
 | .vec _ _ l => qL_eq n l
 | .vp l _ => qL_eq n l
 | .vpx l _ _ _ => qL_eq n l
 | .fn _ a b => by show (qL n a && qL n b) = (refsL n a && refsL n b); rw [qL_eq n a, qL_eq n b]
 | .any => rfl
 | .raw _ => rfl
 | .int _ _ => rfl
 | .u8 _ => rfl
 | .u32 _ => rfl
 | .u64 _ => rfl
 | .bool _ => rfl
 | .str _ => rfl
 | .b8 _ _ => rfl
 | .w32 _ _ => rfl
 | .w64 _ _ => rfl
 | .n64 _ _ => rfl
 | .ptr _ _ => rfl
 | .pix _ _ _ _ => rfl
 | .sl _ _ _ _ => rfl
 | .vec8 _ _ => rfl
 | .vecr _ _ _ _ => rfl
 | .slv _ _ _ _ => rfl
theorem qL_eq (n : Nat) : ∀ l : List AV, qL n l = refsL n l
 | [] => rfl
 | a :: as => by show (qA n a && qL n as) = (refsA n a && refsL n as); rw [qA_eq n a, qL_eq n as]
end
def fSet (t : List AV) : Nat → AV → (List AV → Prop) → Prop :=
 @List.rec AV (fun _ => Nat → AV → (List AV → Prop) → Prop) (fun _ _ k => k []) (fun a as ih d v k => @Nat.rec (fun _ => Prop) (k (v :: as)) (fun n _ => ih n v fun t' => k (a :: t')) d) t
theorem fSet_eq : ∀ (l : List AV) (n : Nat) (v : AV) (k : List AV → Prop), fSet l n v k = k (l.set n v)
 | [], _, _, _ => rfl
 | _ :: _, 0, _, _ => rfl
 | a :: as, n + 1, v, k => fSet_eq as n v fun t' => k (a :: t')
def fPut (t : List AV) (d : Option Tmp) (v : AV) (k : List AV → Prop) : Prop := match d with
 | none => k t
 | some d => fA v fun v' => fSet t d v' k
theorem fPut_eq (t : List AV) (d : Option Tmp) (v : AV) (k : List AV → Prop) : fPut t d v k = k (putA t d v) := by
 cases d <;> simp [fPut, putA, fA_eq, fSet_eq]
def fE : Ent → (Ent → Prop) → Prop
 | .dead, k => k .dead
 | .res, k => k .res
 | .blk c f, k => fL c fun c' => k (.blk c' f)
 | .grow8 l f, k => k (.grow8 l f)
 | .grow n r f, k => k (.grow n r f)
 | .tail n m, k => k (.tail n m)
theorem fE_eq (e : Ent) (k : Ent → Prop) : fE e k = k e := by cases e <;> simp [fE, fL_eq]
def fH (H : Heap) : (Heap → Prop) → Prop :=
 @List.rec Ent (fun _ => (Heap → Prop) → Prop) (fun k => k []) (fun e _ ih k => fE e fun e' => ih fun r' => k (e' :: r')) H
theorem fH_eq : ∀ (H : Heap) (k : Heap → Prop), fH H k = k H
 | [], _ => rfl
 | e :: r, k => (fE_eq e fun e' => fH r fun r' => k (e' :: r')).trans (fH_eq r fun r' => k (e :: r'))
def fSetH (H : Heap) : Nat → Ent → (Heap → Prop) → Prop :=
 @List.rec Ent (fun _ => Nat → Ent → (Heap → Prop) → Prop) (fun _ _ k => k []) (fun a as ih d v k => @Nat.rec (fun _ => Prop) (k (v :: as)) (fun n _ => ih n v fun t' => k (a :: t')) d) H
theorem fSetH_eq : ∀ (l : Heap) (n : Nat) (v : Ent) (k : Heap → Prop), fSetH l n v k = k (l.set n v)
 | [], _, _, _ => rfl
 | _ :: _, 0, _, _ => rfl
 | a :: as, n + 1, v, k => fSetH_eq as n v fun t' => k (a :: t')
def fUpd (H : Heap) (u : List (Nat × Ent)) (k : Heap → Prop) : Prop := match u with
 | [] => k H
 | [(i, e)] => fE e fun e' => fSetH H i e' k
 | u => fH (updH H u) k
theorem fUpd_eq (H : Heap) (u : List (Nat × Ent)) (k : Heap → Prop) : fUpd H u k = k (updH H u) := by
 unfold fUpd
 split
 ·rfl
 ·rw [fE_eq, fSetH_eq]; rfl
 ·rw [fH_eq]
def fExt (n : Nat) (H : Heap) (u : List (Nat × Ent)) (k : Heap → Prop) : Prop := match n with
 | 0 => fUpd H u k
 | n + 1 => fH (trim (n + 1) (updH (extH H (n + 1)) u)) k
theorem fExt_eq (n : Nat) (H : Heap) (u : List (Nat × Ent)) (k : Heap → Prop) : fExt n H u k = k (trim n (updH (extH H n) u)) := by
 cases n with
 | zero => exact fUpd_eq H u k
 | succ n => exact fH_eq _ k
def fN (l : List Nat) : (List Nat → Prop) → Prop :=
 @List.rec Nat (fun _ => (List Nat → Prop) → Prop) (fun k => k []) (fun a _ ih k => ih fun as' => k (a :: as')) l
theorem fN_eq : ∀ (l : List Nat) (k : List Nat → Prop), fN l k = k l
 | [], _ => rfl
 | a :: as, k => fN_eq as fun as' => k (a :: as')
def fU (l : List (Nat × Ent)) : (List (Nat × Ent) → Prop) → Prop :=
 @List.rec (Nat × Ent) (fun _ => (List (Nat × Ent) → Prop) → Prop) (fun k => k []) (fun p _ ih k => fE p.2 fun e' => ih fun r' => k ((p.1, e') :: r')) l
theorem fU_eq : ∀ (l : List (Nat × Ent)) (k : List (Nat × Ent) → Prop), fU l k = k l
 | [], _ => rfl
 | (i, e) :: r, k => (fE_eq e fun e' => fU r fun r' => k ((i, e') :: r')).trans (fU_eq r fun r' => k ((i, e) :: r'))
def setB (t : List AV) (d : Nat) (b : Bool) (k : List AV → Prop) : Prop := fSet t d (.bool b) k
theorem setB_eq {t : List AV} {d : Nat} {b : Bool} {k : List AV → Prop} (h : t.getD d .any = .bool b) : setB t d b k = k t := by
 unfold setB
 rw [fSet_eq]
 congr 1
 apply List.ext_getElem?
 intro i
 rw [List.getElem?_set]
 split
 ·rename_i e; subst e
  split
  ·rename_i hl
   rw [List.getD_eq_getElem?_getD, List.getElem?_eq_getElem hl] at h
   rw [List.getElem?_eq_getElem hl]; simpa using h.symm
  ·rename_i hl; simp; omega
 ·rfl
section
variable {P : Program} (G : Env P) (R : ROps G) (C : FuncId → List AV → Option (Bool × Out))
def dstep (nid : Nat) (o : Oper) (s : St) (K : DEff → Prop) : Prop :=
 match eff G R C o.op (evA G s.t) s.H nid with
 | some E => E.go fun v u => fA v fun v => fU u fun u => fN (readsE (evA G s.t) o.op nid (slots G o.op) ++ u.map (·.1)) fun rs => K ⟨o.dst, v, u, rs⟩
 | none => stuckAt o s
def dgstep (ops : Array Oper) (nid : Nat) (o : Oper) (s : St) (K : List AV → DEff → Prop) : Prop :=
 match o.guard with
 | none => dstep G R C nid o s (K s.t)
 | some (j, want) =>
  match (ops[j]?).bind (·.dst) with
  | none => K s.t ⟨o.dst, .tup [], [], []⟩
  | some d =>
   match tget s.t d with
   | .bool b => ifW b want (setB s.t d want fun t => dstep G R C nid o ⟨t, s.H⟩ (K t)) (setB s.t d (!want) fun t => K t ⟨o.dst, .tup [], [], []⟩)
   | .tup _ => K s.t ⟨o.dst, .tup [], [], []⟩
   | _ => stuckAt o s
def sstep (cl : FuncId → List AV → St → Option Tmp → (St → Prop) → Prop) (o : Oper) (s : St) (K : St → Prop) : Prop :=
 match aval0 G o.op (evA G s.t) s.H with
 | some (c, v) => cnd c (fPut s.t o.dst v fun t => K ⟨t, s.H⟩)
 | none =>
  match eff G R C o.op (evA G s.t) (extH s.H (slots G o.op)) s.H.length with
  | some E => E.go fun v u => fPut s.t o.dst v fun t => fExt (slots G o.op) s.H u fun H => K ⟨t, H⟩
  | none =>
   match acall o.op (evA G s.t) with
   | some (f, args) => cnd (G.go f) (cl f args s o.dst K)
   | none => stuckAt o s
def sgstep (cl : FuncId → List AV → St → Option Tmp → (St → Prop) → Prop) (ops : Array Oper) (o : Oper) (s : St) (K : St → Prop) : Prop :=
 match o.guard with
 | none => sstep G R C cl o s K
 | some (j, want) =>
  match (ops[j]?).bind (·.dst) with
  | none => fPut s.t o.dst (.tup []) fun t => K ⟨t, s.H⟩
  | some d =>
   match tget s.t d with
   | .bool b => ifW b want (setB s.t d want fun t => sstep G R C cl o ⟨t, s.H⟩ K) (setB s.t d (!want) fun t => fPut t o.dst (.tup []) fun t => K ⟨t, s.H⟩)
   | .tup _ => fPut s.t o.dst (.tup []) fun t => K ⟨t, s.H⟩
   | _ => stuckAt o s
def sops (cl : FuncId → List AV → St → Option Tmp → (St → Prop) → Prop) (ops : Array Oper) : List Oper → St → (St → Prop) → Prop
 | [], s, K => K s
 | o :: rest, s, K => sgstep G R C cl ops o s fun s' => sops cl ops rest s' K
end
section
variable {P : Program} {G : Env P} {ρ : Rho} {I : Imm} {H : Heap} {w : World}
structure Agree {P : Program} (G : Env P) (ops : Array Oper) (o : Oper) (rs : List Nat) (s s' : St) : Prop where
 look : ∀ t ∈ o.looksAt ops, s'.t.getD t .any = s.t.getD t .any
 read : ∀ id ∈ rs, s'.H[id]? = s.H[id]?
theorem Agree.ev {ops : Array Oper} {o : Oper} {rs : List Nat} {s s' : St} (h : Agree G ops o rs s s') {x : Operand} (hx : x ∈ o.op.operands) : evA G s'.t x = evA G s.t x := by
 cases x with
 | tmp t =>
  show tget _ _ = tget _ _
  rw [tget_eq, tget_eq]
  refine h.look t ?_
  unfold Oper.looksAt
  rw [List.mem_append]
  left
  rw [List.mem_filterMap]
  exact ⟨.tmp t, by simpa using hx, rfl⟩
 | _ => rfl
theorem Agree.mono {ops : Array Oper} {o : Oper} {rs rs' : List Nat} {s s' : St} (h : Agree G ops o rs s s') (hr : ∀ x ∈ rs', x ∈ rs) : Agree G ops o rs' s s' :=
 ⟨h.look, fun id hid => h.read id (hr id hid)⟩
theorem reserve_conc (c : Conc G.g ρ I H w) (n : Nat) : Good ρ I H w ρ I (H ++ List.replicate n .res) w ∧ Conc G.g ρ I (H ++ List.replicate n .res) w := by
 have hget : ∀ (i : Nat) (e : Ent), (H ++ List.replicate n .res)[i]? = some e → (H[i]? = some e) ∨ (H.length ≤ i ∧ e = .res) := by
  intro i e h
  rcases Nat.lt_or_ge i H.length with hi | hi
  ·left; rwa [List.getElem?_append_left hi] at h
  ·right
   rw [List.getElem?_append_right hi, List.getElem?_replicate] at h
   split at h
   ·simp at h; exact ⟨hi, h.symm⟩
   ·simp at h
 have live : ∀ (i : Nat) (e : Ent), (H ++ List.replicate n .res)[i]? = some e → e.live = true → H[i]? = some e := by
  intro i e h hl
  rcases hget i e h with h | ⟨_, rfl⟩
  ·exact h
  ·simp [Ent.live] at hl
 have g : Good ρ I H w ρ I (H ++ List.replicate n .res) w :=
  ⟨fun _ _ h => h, fun id x _ ⟨e, h1, h2⟩ => ⟨e, live id e h1 (by cases e <;> simp_all [Ent.grows, Ent.live]), h2⟩, by simp, fun _ _ h => h, fun _ _ _ h => .inl h, rfl, rfl, rfl, Nat.le_refl _, fun _ _ _ _ => rfl, fun _ _ _ => rfl, fun _ _ => rfl,
   fun b o _ ⟨i, e, h1, h2, h3, h4⟩ => ⟨i, e, live i e h1 h2, h2, h3, h4⟩, fun b _ ⟨i, e, h1, h2, h3⟩ => ⟨i, e, live i e h1 h2, h2, h3⟩⟩
 refine ⟨g, fun id h => by have := c.dom id h; simp; omega, fun id h => ?_, c.blt, fun i j b e e' hi l1 hj l2 => c.inj i j b e e' (live i e hi l1) l1 (live j e' hj l2) l2,
  fun id cs f h => c.blk id cs f (live id _ h rfl), fun id e h he => c.grow id e (live id _ h (by cases e <;> simp_all [Ent.grows, Ent.live])) he, fun b o h => ⟨(c.imm b o h).1, fun hm => (c.imm b o h).2 (g.wrt b o (c.imm b o h).1 hm)⟩, c.glob⟩
 rcases hget id _ h with h | ⟨h, _⟩
 ·exact c.res id h
 ·exact Classical.byContradiction fun hn => by have := c.dom id hn; omega
def DoesAt {P : Program} (G : Env P) (ops : Array Oper) (o : Oper) (e : DEff) (s : St) : Prop :=
 e.dst = o.dst ∧ (∀ p ∈ e.upd, p.1 ∈ e.reads) ∧
 ∀ s', Agree G ops o e.reads s s' → ∀ (ρ : Rho) (I : Imm) (w : World) (a : Act) (next : Act → World → Prop) (Q : Exit → Act → World → Prop), Conc G.g ρ I s'.H w → RelT ρ I w s'.t a →
  Leads G ρ I s'.H w (fun s2 => s2 = applyE e s') next → if Region.wanted o (yielded ops a.tmps) then o.wp P a w next Q else next (a.put o.dst undef) w
theorem dstep_sound {R : ROps G} {T : Ctr G} {ops : Array Oper} {nid : Nat} {o : Oper} {s : St} {K : DEff → Prop} (h : dstep G R T.C nid o s K) :
  ∃ e, K e ∧ e.dst = o.dst ∧ (∀ p ∈ e.upd, p.1 ∈ e.reads) ∧
   ∀ s', Agree G ops o e.reads s s' → ∀ (ρ : Rho) (I : Imm) (w : World) (a : Act) (next : Act → World → Prop) (Q : Exit → Act → World → Prop), Conc G.g ρ I s'.H w → RelT ρ I w s'.t a →
    Leads G ρ I s'.H w (fun s2 => s2 = applyE e s') next → o.wp P a w next Q := by
 unfold dstep at h
 split at h
 ·rename_i E hE
  obtain ⟨v, u, hh, hk⟩ := Eff.go_has h
  rw [fA_eq, fU_eq, fN_eq] at hk
  refine ⟨_, hk, rfl, fun p hp => List.mem_append_right _ (List.mem_map.2 ⟨p, hp, rfl⟩), ?_⟩
  intro s' ag ρ I w a next Q hC hR hn
  have hE' : eff G R T.C o.op (evA G s'.t) s'.H nid = some E := by
   rw [eff_congr (fun x hx => ag.ev hx) (fun id hid => ag.read id (List.mem_append_left _ hid))]
   exact hE
  refine eff_sound R T hC hR hE' hh ?_
  intro ρ' I' x w' g c m r
  exact hn ρ' I' (applyE ⟨o.dst, v, u, readsE (evA G s.t) o.op nid (slots G o.op) ++ u.map (·.1)⟩ s') _ w' g c ((hR.mono m).put o.dst r) rfl
 ·exact (stuckAt_no h).elim
theorem dgstep_sound {ops : Array Oper} {R : ROps G} {T : Ctr G} {nid : Nat} {o : Oper} {s : St} {K : List AV → DEff → Prop} (h : dgstep G R T.C ops nid o s K) : ∃ e, K s.t e ∧ DoesAt G ops o e s := by
 have skip : ∀ (hy : ∀ s' rs, Agree G ops o rs s s' → ∀ ρ I w a, RelT ρ I w s'.t a → Region.wanted o (yielded ops a.tmps) = false), K s.t ⟨o.dst, .tup [], [], []⟩ → ∃ e, K s.t e ∧ DoesAt G ops o e s := by
  intro hy hk
  refine ⟨_, hk, rfl, fun _ h => by simp at h, ?_⟩
  intro s' ag ρ I w a next Q hC hR hn
  rw [hy s' _ ag ρ I w a hR]
  simp only [Bool.false_eq_true, if_false]
  exact hn ρ I (applyE ⟨o.dst, .tup [], [], []⟩ s') _ w (Good.refl _ _ _ _) hC (hR.put _ rel_undef) rfl
 have take : dstep G R T.C nid o s (K s.t) → (∀ s' rs, Agree G ops o rs s s' → ∀ ρ I w a, RelT ρ I w s'.t a → Region.wanted o (yielded ops a.tmps) = true) → ∃ e, K s.t e ∧ DoesAt G ops o e s := by
  intro hd hy
  obtain ⟨e, h1, h2, h3, h4⟩ := dstep_sound (ops := ops) hd
  refine ⟨e, h1, h2, h3, ?_⟩
  intro s' ag ρ I w a next Q hC hR hn
  rw [hy s' _ ag ρ I w a hR]
  simp only [if_true]
  exact h4 s' ag ρ I w a next Q hC hR hn
 unfold dgstep at h
 split at h
 ·rename_i hg
  exact take h fun s' rs ag ρ I w a hR => by unfold Region.wanted; rw [hg]
 ·rename_i j want hg
  split at h
  ·rename_i hd
   refine skip (fun s' rs ag ρ I w a hR => ?_) h
   unfold Region.wanted
   rw [hg]
   have : yielded ops a.tmps j = none := by unfold yielded; rw [hd]; rfl
   simp [this]
  ·rename_i d hd
   have hlook : d ∈ o.looksAt ops := by
    unfold Oper.looksAt
    rw [List.mem_append]
    right
    rw [hg]
    simp [hd]
   split at h
   ·rename_i b hb
    rw [tget_eq] at hb
    have h := ifW_iff.1 h
    by_cases e : b = want
    ·have h1 := h.1 e
     rw [setB_eq (by rw [hb, e])] at h1
     refine take h1 fun s' rs ag ρ I w a hR => ?_
     unfold Region.wanted
     rw [hg]
     simp only
     rw [yielded_of hR hd ((ag.look d hlook).trans hb), e]
     simp
    ·have e' : b = !want := by cases b <;> cases want <;> simp_all
     have h1 := h.2 e'
     rw [setB_eq (by rw [hb, e'])] at h1
     refine skip (fun s' rs ag ρ I w a hR => ?_) h1
     unfold Region.wanted
     rw [hg]
     simp only
     rw [yielded_of hR hd ((ag.look d hlook).trans hb)]
     simp [e]
   ·rename_i l hl
    rw [tget_eq] at hl
    refine skip (fun s' rs ag ρ I w a hR => ?_) h
    unfold Region.wanted
    rw [hg]
    simp only
    rw [yielded_tup hR hd ((ag.look d hlook).trans hl)]
    simp
   ·exact (stuckAt_no h).elim
end
def noEff : DEff := ⟨none, .any, [], []⟩
def runI (es : List DEff) (l : List Nat) (s : St) : St := l.foldl (fun s i => applyE (es.getD i noEff) s) s
theorem runI_cons (es : List DEff) (i : Nat) (l : List Nat) (s : St) : runI es (i :: l) s = runI es l (applyE (es.getD i noEff) s) := rfl
theorem runI_append (es : List DEff) (l l' : List Nat) (s : St) : runI es (l ++ l') s = runI es l' (runI es l s) := by simp [runI]
theorem applyE_len (e : DEff) (s : St) : (applyE e s).t.length = s.t.length ∧ (applyE e s).H.length = s.H.length := by
 simp only [applyE, updH_len, and_true]
 cases e.dst <;> simp [putA]
theorem putA_getD (t : List AV) (d : Option Tmp) (v : AV) (x : Nat) : (putA t d v).getD x .any = if d = some x ∧ x < t.length then v else t.getD x .any := by
 cases d with
 | none => simp [putA]
 | some d =>
  simp only [putA, List.getD_eq_getElem?_getD, List.getElem?_set, Option.some.injEq]
  by_cases h : d = x
  ·subst h
   by_cases h2 : d < t.length
   ·simp [h2]
   ·simp [h2]
  ·simp [h]
theorem runI_tmp (es : List DEff) (x : Nat) : ∀ (l : List Nat) (s s' : St), s.t.getD x .any = s'.t.getD x .any → s.t.length = s'.t.length →
  (runI es l s).t.getD x .any = (runI es (l.filter fun i => (es.getD i noEff).dst = some x) s').t.getD x .any
 | [], s, s', h, _ => h
 | i :: l, s, s', h, hl => by
  rw [runI_cons]
  by_cases hd : (es.getD i noEff).dst = some x
  ·rw [List.filter_cons_of_pos (by simpa using hd), runI_cons]
   refine runI_tmp es x l _ _ ?_ (by rw [(applyE_len _ _).1, (applyE_len _ _).1, hl])
   simp only [applyE, putA_getD, hd, hl, h]
  ·rw [List.filter_cons_of_neg (by simpa using hd)]
   refine runI_tmp es x l _ _ ?_ (by rw [(applyE_len _ _).1, hl])
   rw [← h]
   simp only [applyE, putA_getD, hd, false_and, if_false]
def wrH (e : DEff) (id : Nat) : Bool := e.upd.any fun p => p.1 == id
theorem updH_get : ∀ (u : List (Nat × Ent)) (H : Heap) (id : Nat), (u.any fun p => p.1 == id) = false → (updH H u)[id]? = H[id]?
 | [], H, id, _ => rfl
 | (i, x) :: r, H, id, h => by
  simp only [List.any_cons, Bool.or_eq_false_iff, beq_eq_false_iff_ne, ne_eq] at h
  rw [updH, updH_get r _ id h.2, List.getElem?_set_ne h.1]
theorem updH_same : ∀ (u : List (Nat × Ent)) (H H' : Heap) (id : Nat), (u.any fun p => p.1 == id) = true → H.length = H'.length → (updH H u)[id]? = (updH H' u)[id]?
 | [], H, H', id, h, _ => by simp at h
 | (i, x) :: r, H, H', id, h, hl => by
  rw [updH, updH]
  cases hr : r.any fun p => p.1 == id
  ·have hi : i = id := by
    have : (i == id) = true := by simpa [hr] using h
    simpa using this
   subst hi
   rw [updH_get r _ i hr, updH_get r _ i hr]
   simp only [List.getElem?_set, if_true, hl]
  ·exact updH_same r _ _ id hr (by simp [hl])
theorem updH_set : ∀ (u : List (Nat × Ent)) (H : Heap) (i : Nat) (x : Ent), (u.any fun p => p.1 == i) = false → updH (H.set i x) u = (updH H u).set i x
 | [], _, _, _, _ => rfl
 | (j, y) :: r, H, i, x, h => by
  simp only [List.any_cons, Bool.or_eq_false_iff, beq_eq_false_iff_ne, ne_eq] at h
  rw [updH, updH, List.set_comm _ _ (fun e => h.1 e.symm), updH_set r _ i x h.2]
theorem updH_comm : ∀ (u v : List (Nat × Ent)) (H : Heap), (∀ p ∈ u, (v.any fun q => q.1 == p.1) = false) → updH (updH H v) u = updH (updH H u) v
 | [], _, _, _ => rfl
 | (i, x) :: r, v, H, h => by
  rw [updH, updH, ← updH_set v H i x (h (i, x) (by simp)), updH_comm r v _ fun p hp => h p (by simp [hp])]
theorem applyE_H (e : DEff) (s : St) (id : Nat) (h : wrH e id = false) : (applyE e s).H[id]? = s.H[id]? := updH_get _ _ _ h
theorem applyE_H_same (e : DEff) (s s' : St) (id : Nat) (h : wrH e id = true) (hl : s.H.length = s'.H.length) : (applyE e s).H[id]? = (applyE e s').H[id]? := updH_same _ _ _ _ h hl
theorem runI_H (es : List DEff) (id : Nat) : ∀ (l : List Nat) (s s' : St), s.H[id]? = s'.H[id]? → s.H.length = s'.H.length →
  (runI es l s).H[id]? = (runI es (l.filter fun i => wrH (es.getD i noEff) id) s').H[id]?
 | [], s, s', h, _ => h
 | i :: l, s, s', h, hl => by
  rw [runI_cons]
  cases hd : wrH (es.getD i noEff) id
  ·rw [List.filter_cons_of_neg (by rw [hd]; simp)]
   exact runI_H es id l _ _ (by rw [← h]; exact applyE_H _ _ _ hd) (by rw [(applyE_len _ _).2, hl])
  ·rw [List.filter_cons_of_pos (p := fun i => wrH (es.getD i noEff) id) hd, runI_cons]
   exact runI_H es id l _ _ (applyE_H_same _ _ _ _ hd hl) (by rw [(applyE_len _ _).2, (applyE_len _ _).2, hl])
theorem applyE_comm (e f : DEff) (s : St) (h1 : ∀ d, e.dst = some d → f.dst ≠ some d) (h2 : ∀ p ∈ e.upd, wrH f p.1 = false) : applyE e (applyE f s) = applyE f (applyE e s) := by
 have ht : putA (putA s.t f.dst f.val) e.dst e.val = putA (putA s.t e.dst e.val) f.dst f.val := by
  cases he : e.dst with
  | none => rfl
  | some d =>
   cases hf : f.dst with
   | none => rfl
   | some d' =>
    have : d ≠ d' := fun h => h1 d he (by rw [hf, h])
    simp only [putA]
    rw [List.set_comm _ _ this.symm]
 simp only [applyE, ht, St.mk.injEq, true_and]
 exact updH_comm _ _ _ h2
theorem runI_comm (es : List DEff) (e : DEff) : ∀ (l : List Nat) (s : St), (∀ j ∈ l, (∀ d, e.dst = some d → (es.getD j noEff).dst ≠ some d) ∧ ∀ p ∈ e.upd, wrH (es.getD j noEff) p.1 = false) →
  runI es l (applyE e s) = applyE e (runI es l s)
 | [], _, _ => rfl
 | j :: l, s, h => by
  obtain ⟨h1, h2⟩ := h j (by simp)
  rw [runI_cons, runI_cons, ← applyE_comm e _ s h1 h2]
  exact runI_comm es e l _ fun k hk => h k (by simp [hk])
theorem filter_more (p p' : Nat → Bool) (i : Nat) (hp : p i = false) (hp' : ∀ j, p' j = (p j || j == i)) : ∀ (n : Nat), i < n →
  ∃ l1 l2, (List.range n).filter p = l1 ++ l2 ∧ (List.range n).filter p' = l1 ++ i :: l2 ∧ ∀ j ∈ l2, i < j ∧ p j = true ∧ j < n
 | 0, h => by omega
 | n + 1, h => by
  have hsame : ∀ m, m ≤ i → (List.range m).filter p' = (List.range m).filter p := by
   intro m hm
   refine List.filter_congr fun j hj => ?_
   have : j < m := by simpa using hj
   rw [hp' j]
   have : (j == i) = false := by simp; omega
   simp [this]
  rw [List.range_succ, List.filter_append, List.filter_append]
  by_cases e : i = n
  ·subst e
   refine ⟨(List.range i).filter p, [], by simp [hp], by simp [hsame i (Nat.le_refl _), hp'], by simp⟩
  ·obtain ⟨l1, l2, h1, h2, h3⟩ := filter_more p p' i hp hp' n (by omega)
   have hn : p' n = p n := by rw [hp' n]; have : (n == i) = false := by simp; omega
                              simp [this]
   cases hpn : p n
   ·refine ⟨l1, l2, by simp [h1, hpn], by simp [h2, hn, hpn], fun j hj => ⟨(h3 j hj).1, (h3 j hj).2.1, by have := (h3 j hj).2.2; omega⟩⟩
   ·refine ⟨l1, l2 ++ [n], by simp [h1, hpn], by simp [h2, hn, hpn], fun j hj => ?_⟩
    rcases List.mem_append.1 hj with hj | hj
    ·exact ⟨(h3 j hj).1, (h3 j hj).2.1, by have := (h3 j hj).2.2; omega⟩
    ·have : j = n := by simpa using hj
     subst this
     exact ⟨by omega, hpn, by omega⟩
def msk (acc : List Nat) (o : Oper) : Nat := o.after.toList.foldl (fun m e => if Region.binds .any e then (m ||| 2 ^ e.on) ||| acc.getD e.on 0 else m) 0
def masks : List Oper → List Nat → List Nat
 | [], acc => acc
 | o :: r, acc => masks r (acc ++ [msk acc o])
theorem msk_rel (R : Nat → Nat → Prop) (trans : ∀ j m i, R j m → R m i → R j i) {acc : List Nat} {o : Oper} {k : Nat} (hacc : ∀ j i, (acc.getD j 0).testBit i = true → R j i)
  (ho : ∀ e ∈ o.after, Region.binds .any e = true → R k e.on) {i : Nat} (h : (msk acc o).testBit i = true) : R k i := by
 unfold msk at h
 have key : ∀ (l : List Edge) (m : Nat), (∀ e ∈ l, e ∈ o.after) → (m.testBit i = true → R k i) →
   (l.foldl (fun m e => if Region.binds .any e then (m ||| 2 ^ e.on) ||| acc.getD e.on 0 else m) m).testBit i = true → R k i := by
  intro l
  induction l with
  | nil => intro m _ hm h; exact hm h
  | cons e l ih =>
   intro m hl hm h
   rw [List.foldl_cons] at h
   refine ih _ (fun x hx => hl x (by simp [hx])) ?_ h
   intro hb
   by_cases hbd : Region.binds .any e = true
   ·rw [if_pos hbd, Nat.testBit_or, Nat.testBit_or, Bool.or_eq_true, Bool.or_eq_true] at hb
    rcases hb with (hb | hb) | hb
    ·exact hm hb
    ·rw [Nat.testBit_two_pow] at hb
     have : e.on = i := by simpa using hb
     rw [← this]
     exact ho e (hl e (by simp)) hbd
    ·exact trans _ _ _ (ho e (hl e (by simp)) hbd) (hacc e.on i hb)
   ·rw [if_neg hbd] at hb
    exact hm hb
 exact key _ 0 (fun e he => by simpa using he) (by simp) h
theorem masks_rel (R : Nat → Nat → Prop) (trans : ∀ j m i, R j m → R m i → R j i) : ∀ (l : List Oper) (acc : List Nat), (∀ j i, (acc.getD j 0).testBit i = true → R j i) →
  (∀ k o, l[k]? = some o → ∀ e ∈ o.after, Region.binds .any e = true → R (acc.length + k) e.on) → ∀ j i, ((masks l acc).getD j 0).testBit i = true → R j i
 | [], acc, h, _ => h
 | o :: r, acc, h, hd => by
  refine masks_rel R trans r (acc ++ [msk acc o]) ?_ ?_
  ·intro j i hb
   rw [List.getD_eq_getElem?_getD] at hb
   rcases Nat.lt_or_ge j acc.length with hlt | hge
   ·rw [List.getElem?_append_left hlt, ← List.getD_eq_getElem?_getD] at hb
    exact h j i hb
   ·rw [List.getElem?_append_right hge] at hb
    by_cases e : j = acc.length
    ·subst e
     simp at hb
     exact msk_rel R trans h (hd 0 o rfl) hb
    ·have : 1 ≤ j - acc.length := by omega
     rw [List.getElem?_eq_none (by simpa using this)] at hb
     simp at hb
  ·intro k o' hk
   rw [List.length_append, List.length_singleton, show acc.length + 1 + k = acc.length + (k + 1) by omega]
   exact hd (k + 1) o' (by simpa using hk)
def freeH (e f : DEff) : Bool := (e.upd.all fun p => !f.reads.contains p.1) && (f.upd.all fun p => !e.reads.contains p.1)
def indepB (ops : Array Oper) (tr : List DEff) : Bool :=
 let ms := masks ops.toList []
 (List.range ops.size).all fun j =>
  ((ops.getD j default).after.all fun e => !Region.binds .any e || decide (e.on < j)) &&
  (List.range j).all fun i => (ms.getD j 0).testBit i || ((ops.getD i default).apart ops (ops.getD j default) && freeH (tr.getD i noEff) (tr.getD j noEff))
section
variable {P : Program} {G : Env P}
structure Indep (ops : Array Oper) (es : List DEff) : Prop where
 fwd : ∀ j o, ops[j]? = some o → ∀ e ∈ o.after, Region.binds .any e = true → e.on < j
 pair : ∀ i j oi oj, i < j → ops[i]? = some oi → ops[j]? = some oj → ((masks ops.toList []).getD j 0).testBit i = true ∨ (oi.apart ops oj = true ∧ freeH (es.getD i noEff) (es.getD j noEff) = true)
theorem indep_of {ops : Array Oper} {es : List DEff} (h : indepB ops es = true) : Indep ops es := by
 unfold indepB at h
 simp only [List.all_eq_true, List.mem_range, Bool.and_eq_true, Bool.or_eq_true] at h
 refine ⟨?_, ?_⟩
 ·intro j o ho e he hb
  have hlt : j < ops.size := (Array.getElem?_eq_some_iff.1 ho).1
  have h1 := (h j hlt).1
  have hg : ops.getD j default = o := by simp [ho]
  rw [hg, Array.all_eq_true_iff_forall_mem] at h1
  have := h1 e he
  simpa [hb] using this
 ·intro i j oi oj hij hi hj
  have hlt : j < ops.size := (Array.getElem?_eq_some_iff.1 hj).1
  have h1 := (h j hlt).2 i hij
  have hgi : ops.getD i default = oi := by simp [hi]
  have hgj : ops.getD j default = oj := by simp [hj]
  rw [hgi, hgj] at h1
  exact h1
theorem wpAny_done {ops : Array Oper} {Q : Exit → Act → World → Prop} {listed : Array Bool} (hall : ∀ i, i < ops.size → listed.getD i false = true) (hsz : listed.size = ops.size) {a : Act} {w : World} (h : Q .normal a w) : ∀ fuel, wpAny P .any ops Q fuel listed a w := by
 have hr : Region.ready .any ops listed = [] := by
  refine List.eq_nil_iff_forall_not_mem.2 fun j hj => ?_
  rw [mem_ready] at hj
  obtain ⟨h1, o, ho, _⟩ := hj
  have hlt : j < ops.size := (Array.getElem?_eq_some_iff.1 ho).1
  have hlt' : j < listed.size := by omega
  have := hall j hlt
  simp [hlt'] at h1 this
  rw [h1] at this
  simp at this
 intro fuel
 cases fuel with
 | zero => exact ⟨hr, h⟩
 | succ n => exact ⟨fun _ => h, fun i hi => by rw [hr] at hi; simp at hi⟩
theorem wpAny_perm {ops : Array Oper} {es : List DEff} {s0 : St} {Q : Exit → Act → World → Prop} {n0 : Nat} {KS : St → Prop} {ρb : Rho} {Ib : Imm} {Hb : Heap} {wb : World} (hQ : Leads G ρb Ib Hb wb KS (Q .normal)) (hI : Indep ops es)
  (hd : ∀ (k : Nat) (o : Oper), k < n0 → ops[k]? = some o → DoesAt G ops o (es.getD k noEff) (runI es (List.range k) s0))
  (hKS : ops.size ≤ n0 → KS (runI es (List.range ops.size) s0))
  (hls : ∀ (i : Nat) (o : Oper), n0 ≤ i → ops[i]? = some o → es.getD i noEff = noEff ∧ (∀ k, k < ops.size → k ≠ i → ((masks ops.toList []).getD i 0).testBit k = true) ∧
   ∀ (ρ : Rho) (I : Imm) (w : World) (a : Act) (next : Act → World → Prop), Conc G.g ρ I (runI es (List.range ops.size) s0).H w → RelT ρ I w (runI es (List.range ops.size) s0).t a →
    Good ρb Ib Hb wb ρ I (runI es (List.range ops.size) s0).H w → Leads G ρb Ib Hb wb KS next → wpOp P ops Q i next a w) :
  ∀ (fuel : Nat) (listed : Array Bool), listed.size = ops.size → (∀ i, n0 ≤ i → i < ops.size → listed.getD i false = false) → (∀ j o, ops[j]? = some o → listed.getD j false = true → ∀ e ∈ o.after, Region.binds .any e = true → listed.getD e.on false = true) →
   ((List.range ops.size).filter fun i => !listed.getD i false).length ≤ fuel → ∀ (ρ : Rho) (I : Imm) (w : World) (a : Act),
   Conc G.g ρ I (runI es ((List.range ops.size).filter fun i => listed.getD i false) s0).H w → RelT ρ I w (runI es ((List.range ops.size).filter fun i => listed.getD i false) s0).t a →
   Good ρb Ib Hb wb ρ I (runI es ((List.range ops.size).filter fun i => listed.getD i false) s0).H w →
   wpAny P .any ops Q fuel listed a w := by
 have alldone : ∀ (listed : Array Bool), listed.size = ops.size → (∀ i, i < ops.size → listed.getD i false = true) → (List.range ops.size).filter (fun i => listed.getD i false) = List.range ops.size := by
  intro listed _ h
  rw [List.filter_eq_self]
  intro i hi
  exact h i (by simpa using hi)
 have stuck : ∀ (listed : Array Bool), listed.size = ops.size → Region.ready .any ops listed = [] → ∀ n i, i < n → i < ops.size → listed.getD i false = true := by
  intro listed hsz hr n
  induction n with
  | zero => intro i hi; omega
  | succ n ih =>
   intro i hi hlt
   refine Classical.byContradiction fun hn => ?_
   have hn' : listed.getD i false = false := by simpa using hn
   have hmem : i ∈ Region.ready .any ops listed := by
    rw [mem_ready]
    have hlt' : i < listed.size := by omega
    refine ⟨by simpa [hlt'] using hn', ops[i], by simp [hlt], fun e he hb => ?_⟩
    have := hI.fwd i ops[i] (by simp [hlt]) e he hb
    exact ih e.on (by omega) (by omega)
   rw [hr] at hmem
   simp at hmem
 have fin : ∀ (listed : Array Bool), listed.size = ops.size → (∀ i, n0 ≤ i → i < ops.size → listed.getD i false = false) → Region.ready .any ops listed = [] → ∀ (ρ : Rho) (I : Imm) (w : World) (a : Act),
   Conc G.g ρ I (runI es ((List.range ops.size).filter fun i => listed.getD i false) s0).H w → RelT ρ I w (runI es ((List.range ops.size).filter fun i => listed.getD i false) s0).t a →
   Good ρb Ib Hb wb ρ I (runI es ((List.range ops.size).filter fun i => listed.getD i false) s0).H w → Q .normal a w := by
  intro listed hsz hnl hr ρ I w a hC hR hn
  have hge : ops.size ≤ n0 := by
   refine Classical.byContradiction fun hlt => ?_
   have h1 := stuck listed hsz hr (n0 + 1) n0 (by omega) (by omega)
   rw [hnl n0 (Nat.le_refl _) (by omega)] at h1
   simp at h1
  have := alldone listed hsz (fun i hi => stuck listed hsz hr (i + 1) i (by omega) hi)
  rw [this] at hC hR hn
  exact hQ ρ I (runI es (List.range ops.size) s0) a w hn hC hR (hKS hge)
 intro fuel
 induction fuel with
 | zero =>
  intro listed hsz hnl _ hcount ρ I w a hC hR hn
  have hall : ∀ i, i < ops.size → listed.getD i false = true := by
   intro i hi
   refine Classical.byContradiction fun hf => ?_
   have hm : i ∈ (List.range ops.size).filter fun i => !listed.getD i false := by
    rw [List.mem_filter]
    exact ⟨by simpa using hi, by simpa using hf⟩
   have := List.length_pos_of_mem hm
   omega
  have hr : Region.ready .any ops listed = [] := by
   refine List.eq_nil_iff_forall_not_mem.2 fun j hj => ?_
   rw [mem_ready] at hj
   obtain ⟨h1, o, ho, _⟩ := hj
   have hlt : j < ops.size := (Array.getElem?_eq_some_iff.1 ho).1
   have hlt' : j < listed.size := by omega
   have := hall j hlt
   simp [hlt'] at h1 this
   rw [h1] at this
   simp at this
  exact ⟨hr, fin listed hsz hnl hr ρ I w a hC hR hn⟩
 | succ fuel ih =>
  intro listed hsz hnl hdc hcount ρ I w a hC hR hn
  refine ⟨fun hr => fin listed hsz hnl hr ρ I w a hC hR hn, ?_⟩
  intro i hi
  rw [mem_ready] at hi
  obtain ⟨h1, oi, hoi, hrd⟩ := hi
  have hlt : i < ops.size := (Array.getElem?_eq_some_iff.1 hoi).1
  have hlt' : i < listed.size := by omega
  have hni : listed.getD i false = false := by simpa [hlt'] using h1
  have hmlt : ∀ j k, ((masks ops.toList []).getD j 0).testBit k = true → k < j :=
   masks_rel (fun j i => i < j) (fun _ _ _ h1 h2 => Nat.lt_trans h2 h1) ops.toList [] (by simp) (fun k o hk e he hb => by
    simp only [List.length_nil, Nat.zero_add]
    exact hI.fwd k o (by simpa using hk) e he hb)
  have hdown : ∀ j k, ((masks ops.toList []).getD j 0).testBit k = true → (listed.getD j false = true ∨ j = i) → (listed.getD k false = true ∨ k = i) :=
   masks_rel (fun j k => (listed.getD j false = true ∨ j = i) → (listed.getD k false = true ∨ k = i)) (fun _ _ _ h1 h2 h => h2 (h1 h)) ops.toList [] (by simp) (fun k o hk e he hb hD => by
    simp only [List.length_nil, Nat.zero_add] at hD
    have hk' : ops[k]? = some o := by simpa using hk
    rcases hD with hD | hD
    ·exact .inl (hdc k o hk' hD e he hb)
    ·subst hD
     rw [hoi] at hk'
     simp at hk'
     subst hk'
     exact .inl (hrd e he hb))
  have hbef : ∀ k, ((masks ops.toList []).getD i 0).testBit k = true → listed.getD k false = true := fun k hk => by
   rcases hdown i k hk (.inr rfl) with h | h
   ·exact h
   ·have := hmlt i k hk; omega
  have hdc' : ∀ j k, ((masks ops.toList []).getD j 0).testBit k = true → listed.getD j false = true → listed.getD k false = true := 
   masks_rel (fun j k => listed.getD j false = true → listed.getD k false = true) (fun _ _ _ h1 h2 h => h2 (h1 h)) ops.toList [] (by simp) (fun k o hk e he hb hD => by
    simp only [List.length_nil, Nat.zero_add] at hD
    exact hdc k o (by simpa using hk) hD e he hb)
  have hset : ∀ j, (listed.setIfInBounds i true).getD j false = (listed.getD j false || j == i) := by
   intro j
   by_cases e : i = j
   ·subst e; simp [hlt']
   ·rw [getD_set_ne false e]
    have : (j == i) = false := by simp; omega
    simp [this]
  rcases Nat.lt_or_ge i n0 with hin | hin
  rotate_left
  ·obtain ⟨hne, hmk, hwp⟩ := hls i oi hin hoi
   have hother : ∀ k, k < ops.size → k ≠ i → listed.getD k false = true := fun k hk hki => hbef k (hmk k hk hki)
   have hsame : runI es ((List.range ops.size).filter fun i => listed.getD i false) s0 = runI es (List.range ops.size) s0 := by
    have gen : ∀ (n : Nat) (s : St), n ≤ ops.size → runI es ((List.range n).filter fun i => listed.getD i false) s = runI es (List.range n) s := by
     intro n
     induction n with
     | zero => intro s _; rfl
     | succ n ihn =>
      intro s hle
      rw [List.range_succ, List.filter_append, runI_append, runI_append, ihn s (by omega)]
      by_cases e : n = i
      ·subst e
       simp only [List.filter_cons, hni, List.filter_nil, runI, List.foldl_nil, List.foldl_cons, hne]
       rfl
      ·simp only [List.filter_cons, hother n (by omega) e, List.filter_nil, if_true]
    exact gen ops.size s0 (Nat.le_refl _)
   rw [hsame] at hC hR hn
   refine hwp ρ I w a _ hC hR hn fun ρ' I' s' a' w' hg hC' hR' hs' => ?_
   refine wpAny_done (fun k hk => ?_) (by simpa using hsz) (hQ ρ' I' s' a' w' hg hC' hR' hs') fuel
   rw [hset]
   by_cases e : k = i
   ·subst e; simp
   ·rw [hother k hk e]; rfl
  obtain ⟨hdst, hupd, hdo⟩ := hd i oi hin hoi
  have hfree : ∀ j oj, ops[j]? = some oj → j ≠ i → (listed.getD j false = true ↔ j < i) ∨
    ((∀ d, oj.dst = some d → d ∉ oi.looksAt ops) ∧ (∀ d, oi.dst = some d → oj.dst ≠ some d) ∧ (∀ p ∈ (es.getD i noEff).upd, wrH (es.getD j noEff) p.1 = false) ∧
     ∀ q ∈ (es.getD i noEff).reads, wrH (es.getD j noEff) q = false) := by
   intro j oj hoj hji
   have wr : ∀ (e f : DEff), (∀ p ∈ e.upd, p.1 ∈ e.reads) → (f.upd.all fun p => !e.reads.contains p.1) = true → (∀ p ∈ e.upd, wrH f p.1 = false) ∧ ∀ q ∈ e.reads, wrH f q = false := by
    intro e f he hf
    have h2 : ∀ q ∈ e.reads, wrH f q = false := by
     intro q hq
     unfold wrH
     rw [List.any_eq_false]
     intro p hp
     rw [List.all_eq_true] at hf
     have := hf p hp
     simp only [Bool.not_eq_true', List.contains_eq_mem, decide_eq_false_iff_not] at this
     simp only [beq_iff_eq]
     rintro rfl
     exact this hq
    exact ⟨fun p hp => h2 p.1 (he p hp), h2⟩
   rcases Nat.lt_or_ge j i with hlt2 | hge2
   ·rcases hI.pair j i oj oi hlt2 hoj hoi with hb | ⟨hap, hfr⟩
    ·exact .inl ⟨fun _ => hlt2, fun _ => hbef j hb⟩
    ·obtain ⟨a1, a2, a3⟩ := Oper.apart_spec hap
     simp only [freeH, Bool.and_eq_true] at hfr
     obtain ⟨w1, w2⟩ := wr (es.getD i noEff) (es.getD j noEff) hupd hfr.1
     exact .inr ⟨a1, fun d hd h => a2 d h hd, w1, w2⟩
   ·have hgt : i < j := by omega
    rcases hI.pair i j oi oj hgt hoi hoj with hb | ⟨hap, hfr⟩
    ·refine .inl ⟨fun hl => ?_, fun h => by omega⟩
     have := hdc' j i hb hl
     rw [hni] at this
     simp at this
    ·obtain ⟨a1, a2, a3⟩ := Oper.apart_spec hap
     simp only [freeH, Bool.and_eq_true] at hfr
     obtain ⟨w1, w2⟩ := wr (es.getD i noEff) (es.getD j noEff) hupd hfr.2
     exact .inr ⟨a3, fun d hd => a2 d hd, w1, w2⟩
  have hdstj : ∀ j oj t, ops[j]? = some oj → (es.getD j noEff).dst = some t → oj.dst = some t := fun j oj t hj ht => by
   rcases Nat.lt_or_ge j n0 with h | h
   ·rw [← (hd j oj h hj).1]; exact ht
   ·rw [(hls j oj h hj).1] at ht; simp [noEff] at ht
  have hrange : List.range i = (List.range ops.size).filter fun j => decide (j < i) := by
   have : ∀ n, i ≤ n → List.range i = (List.range n).filter fun j => decide (j < i) := by
    intro n
    induction n with
    | zero => intro h; have : i = 0 := by omega
              subst this; rfl
    | succ n ihn =>
     intro h
     rw [List.range_succ, List.filter_append]
     by_cases e : i = n + 1
     ·subst e
      rw [List.filter_eq_self.2 (fun j hj => by simp at hj; simp; omega)]
      simp [List.range_succ]
     ·rw [← ihn (by omega)]
      have : ¬ n < i := by omega
      simp [this]
   exact this _ (by omega)
  have agree : Agree G ops oi (es.getD i noEff).reads (runI es (List.range i) s0) (runI es ((List.range ops.size).filter fun i => listed.getD i false) s0) := by
   refine ⟨fun t ht => ?_, fun q hq => ?_⟩
   ·rw [runI_tmp es t _ s0 s0 rfl rfl, runI_tmp es t (List.range i) s0 s0 rfl rfl]
    rw [hrange, List.filter_filter, List.filter_filter]
    congr 3
    refine List.filter_congr fun j hj => ?_
    have hj' : j < ops.size := by simpa using hj
    obtain ⟨oj, hoj⟩ : ∃ oj, ops[j]? = some oj := ⟨ops[j], by simp [hj']⟩
    by_cases hjd : (es.getD j noEff).dst = some t
    ·simp only [hjd, decide_true, Bool.true_and]
     by_cases hji : j = i
     ·subst hji; simp [hni]
     ·rcases hfree j oj hoj hji with h | ⟨h, _⟩
      ·rw [Bool.eq_iff_iff]; simpa using h
      ·exact absurd ht (h t (hdstj j oj t hoj hjd))
    ·simp only [hjd, decide_false, Bool.false_and]
   ·rw [runI_H es q _ s0 s0 rfl rfl, runI_H es q (List.range i) s0 s0 rfl rfl]
    rw [hrange, List.filter_filter, List.filter_filter]
    congr 3
    refine List.filter_congr fun j hj => ?_
    have hj' : j < ops.size := by simpa using hj
    obtain ⟨oj, hoj⟩ : ∃ oj, ops[j]? = some oj := ⟨ops[j], by simp [hj']⟩
    cases hjw : wrH (es.getD j noEff) q
    ·simp
    ·simp only [Bool.true_and]
     by_cases hji : j = i
     ·subst hji; simp [hni]
     ·rcases hfree j oj hoj hji with h | ⟨_, _, _, h⟩
      ·rw [Bool.eq_iff_iff]; simpa using h
      ·rw [h q hq] at hjw; simp at hjw
  obtain ⟨l1, l2, k1, k2, k3⟩ := filter_more (fun j => listed.getD j false) (fun j => (listed.setIfInBounds i true).getD j false) i hni hset ops.size hlt
  have hnew : runI es ((List.range ops.size).filter fun j => (listed.setIfInBounds i true).getD j false) s0 =
    applyE (es.getD i noEff) (runI es ((List.range ops.size).filter fun i => listed.getD i false) s0) := by
   rw [k2, k1, runI_append, runI_append, runI_cons]
   refine runI_comm es _ l2 _ fun j hj => ?_
   obtain ⟨q1, q2, q3⟩ := k3 j hj
   obtain ⟨oj, hoj⟩ : ∃ oj, ops[j]? = some oj := ⟨ops[j], by simp [q3]⟩
   rcases hfree j oj hoj (by omega) with h | ⟨_, h2, h3, _⟩
   ·have := h.1 q2; omega
   ·exact ⟨fun d hd' hjd => h2 d (by rw [← hdst]; exact hd') (hdstj j oj d hoj hjd), h3⟩
  have := hdo _ agree ρ I w a (wpAny P .any ops Q fuel (listed.setIfInBounds i true)) Q hC hR (by
   intro ρ' I' s' a' w' hg hC' hR' hs'
   subst hs'
   rw [← hnew] at hC' hR' hg
   refine ih (listed.setIfInBounds i true) (by simpa using hsz) (fun j hj hj' => by
    rw [hset, hnl j hj hj']
    have : (j == i) = false := by simp; omega
    rw [this]; rfl) ?_ ?_ ρ' I' w' a' hC' hR' (hn.trans hg)
   ·intro j o ho hl e he hb
    rw [hset] at hl ⊢
    rw [Bool.or_eq_true] at hl ⊢
    left
    rcases hl with hl | hl
    ·exact hdc j o ho hl e he hb
    ·have : j = i := by simpa using hl
     subst this
     rw [hoi] at ho
     simp at ho
     subst ho
     exact hrd e he hb
   ·have hcl : ((List.range ops.size).filter fun j => !(listed.setIfInBounds i true).getD j false).length + 1 ≤ ((List.range ops.size).filter fun j => !listed.getD j false).length := by
     obtain ⟨m1, m2, n1, n2, _⟩ := filter_more (fun j => !(listed.setIfInBounds i true).getD j false) (fun j => !listed.getD j false) i (by show (!(listed.setIfInBounds i true).getD i false) = false; rw [hset i, beq_self_eq_true, Bool.or_true]; rfl) (fun j => by
      show (!listed.getD j false) = (!(listed.setIfInBounds i true).getD j false || j == i)
      rw [hset j]
      by_cases e : j = i
      ·subst e; rw [hni]; simp
      ·have : (j == i) = false := by simp [e]
       rw [this, Bool.or_false, Bool.or_false]) ops.size hlt
     rw [n1, n2]
     simp
     omega
    omega)
  unfold wpOp
  rw [hoi]
  simp only
  split
  ·rename_i hw; rw [if_pos hw] at this; exact .inl this
  ·rename_i hw; rw [if_neg hw] at this; exact this
theorem getD_rep (m j : Nat) : (Array.replicate m false).getD j false = false := by
 simp only [Array.getD_eq_getD_getElem?, Array.getElem?_replicate]
 split <;> rfl
def countS {P : Program} (G : Env P) : List Oper → Nat
 | [] => 0
 | o :: r => slots G o.op + countS G r
def drawn (ops : Array Oper) (Q : Exit → St → Prop) (s : St) (tr : List DEff) : Prop := cnd (indepB ops tr) (Q .normal s)
variable {ρ : Rho} {I : Imm} {H : Heap} {w : World}
theorem trim_sound : ∀ (k : Nat) {H0 : Heap} {ρ0 : Rho} {I0 : Imm} {w0 : World} {ρ : Rho} {I : Imm} {H : Heap} {w : World}, H0.length + k ≤ H.length → Good ρ0 I0 H0 w0 ρ I H w → Conc G.g ρ I H w →
  Good ρ0 I0 H0 w0 ρ I (trim k H) w ∧ Conc G.g ρ I (trim k H) w
 | 0, _, _, _, _, _, _, _, _, _, g, c => ⟨g, c⟩
 | k + 1, H0, ρ0, I0, w0, ρ, I, H, w, hl, g, c => by
  unfold trim
  split
  ·rename_i h
   have hH : H = H.dropLast ++ [.res] := by
    rw [List.getLast?_eq_some_iff] at h
    obtain ⟨ys, rfl⟩ := h
    simp
   have hlen : H.dropLast.length = H.length - 1 := by simp
   rw [hH] at g c
   exact trim_sound k (by omega) (drop_res_good (by omega) g) (drop_res c)
  ·exact ⟨g, c⟩
def lastAll (ops : Array Oper) : Bool := (List.range (ops.size - 1)).all fun k => ((masks ops.toList []).getD (ops.size - 1) 0).testBit k
def callF {P : Program} (G : Env P) (R : ROps G) (C : FuncId → List AV → Option (Bool × Out)) (o : Oper) (s : St) (nid : Nat) : Option (FuncId × List AV) :=
 match o.guard with
 | some _ => none
 | none => match eff G R C o.op (evA G s.t) s.H nid with
  | some _ => none
  | none => acall o.op (evA G s.t)
def dopsL {P : Program} (G : Env P) (R : ROps G) (C : FuncId → List AV → Option (Bool × Out)) (ops : Array Oper) : List Oper → Nat → St → List DEff → (St → List DEff → Prop) → (Oper → FuncId → List AV → St → List DEff → Prop) → Prop
 | [], _, s, tr, K, _ => K s tr
 | [o], nid, s, tr, K, KL => match callF G R C o s nid with
  | some (f, args) => KL o f args s tr
  | none => dgstep G R C ops nid o s fun t e => fPut t e.dst e.val fun t => fUpd s.H e.upd fun H => K ⟨t, H⟩ (tr ++ [e])
 | o :: o2 :: rest, nid, s, tr, K, KL => dgstep G R C ops nid o s fun t e => fPut t e.dst e.val fun t => fUpd s.H e.upd fun H => dopsL G R C ops (o2 :: rest) (nid + slots G o.op) ⟨t, H⟩ (tr ++ [e]) K KL
theorem callF_spec {R : ROps G} {C : FuncId → List AV → Option (Bool × Out)} {o : Oper} {s : St} {nid : Nat} {f : FuncId} {args : List AV} (h : callF G R C o s nid = some (f, args)) : o.guard = none ∧ acall o.op (evA G s.t) = some (f, args) := by
 unfold callF at h
 split at h
 ·simp at h
 ·rename_i hg
  split at h
  ·simp at h
  ·exact ⟨hg, h⟩
theorem dopsL_extract {R : ROps G} {T : Ctr G} {ops : Array Oper} : ∀ (l : List Oper) {nid : Nat} {s : St} {tr : List DEff} {K : St → List DEff → Prop} {KL : Oper → FuncId → List AV → St → List DEff → Prop}, dopsL G R T.C ops l nid s tr K KL →
  ∃ es : List DEff, (∀ (k : Nat) (o : Oper), k < es.length → l[k]? = some o → DoesAt G ops o (es.getD k noEff) (runI es (List.range k) s)) ∧
   ((es.length = l.length ∧ K (runI es (List.range es.length) s) (tr ++ es)) ∨
    (es.length + 1 = l.length ∧ ∃ o f args, l[es.length]? = some o ∧ o.guard = none ∧ acall o.op (evA G (runI es (List.range es.length) s).t) = some (f, args) ∧ KL o f args (runI es (List.range es.length) s) (tr ++ es)))
 | [], nid, s, tr, K, KL, h => ⟨[], fun k o h => by simp at h, .inl ⟨rfl, by simpa [runI, dopsL] using h⟩⟩
 | [o], nid, s, tr, K, KL, h => by
  unfold dopsL at h
  split at h
  ·rename_i f args hc
   obtain ⟨h1, h2⟩ := callF_spec hc
   exact ⟨[], fun k o h => by simp at h, .inr ⟨rfl, o, f, args, rfl, h1, h2, by simpa [runI] using h⟩⟩
  ·obtain ⟨e, h1, h2⟩ := dgstep_sound h
   rw [fPut_eq, fUpd_eq] at h1
   refine ⟨[e], fun k o' hk hl => ?_, .inl ⟨rfl, by simpa [runI, applyE] using h1⟩⟩
   have : k = 0 := by simpa using hk
   subst this
   simp at hl
   subst hl
   simpa [runI] using h2
 | o :: o2 :: rest, nid, s, tr, K, KL, h => by
  unfold dopsL at h
  obtain ⟨e, h1, h2⟩ := dgstep_sound h
  rw [fPut_eq, fUpd_eq] at h1
  obtain ⟨es, g1, g2⟩ := dopsL_extract (o2 :: rest) (s := applyE e s) h1
  have shift : ∀ k, runI (e :: es) (List.range (k + 1)) s = runI es (List.range k) (applyE e s) := by
   intro k
   rw [List.range_succ_eq_map, runI_cons]
   simp only [runI, List.foldl_map, List.getD_cons_zero, List.getD_cons_succ]
  refine ⟨e :: es, fun k o' hk hl => ?_, ?_⟩
  ·cases k with
   | zero =>
    simp at hl
    subst hl
    simpa [runI] using h2
   | succ k =>
    rw [shift]
    simpa using g1 k o' (by simpa using hk) (by simpa using hl)
  ·rw [List.length_cons, shift]
   rcases g2 with ⟨q1, q2⟩ | ⟨q1, o', f, args, q2, q3, q4, q5⟩
   ·exact .inl ⟨by simp [q1], by simpa using q2⟩
   ·exact .inr ⟨by simpa using q1, o', f, args, by simpa using q2, q3, q4, by simpa using q5⟩
theorem Tri.drawL {R : ROps G} {T : Ctr G} {cl : FuncId → List AV → St → Option Tmp → (St → Prop) → Prop} (hcl : ∀ f args s d K, cl f args s d K → callS G f args s d K) {id : Nat} {ops : Array Oper} {Q : Exit → St → Prop} {s : St}
  (h : dopsL G R T.C ops ops.toList s.H.length ⟨s.t, s.H ++ List.replicate (countS G ops.toList) .res⟩ [] (drawn ops fun e s' => fH (trim (s'.H.length - s.H.length) s'.H) fun H => Q e ⟨s'.t, H⟩)
   (fun o f args s' tr => cnd (indepB ops tr && lastAll ops) (cnd (G.go f) (fH (trim (s'.H.length - s.H.length) s'.H) fun H => cl f args ⟨s'.t, H⟩ o.dst (Q .normal))))) : Tri G (.region id ops true) Q s := by
 intro ρ I a w hc hr
 obtain ⟨es, h4, hcase⟩ := dopsL_extract ops.toList h
 obtain ⟨g, cc⟩ := reserve_conc hc (countS G ops.toList)
 have gd : Good ρ I s.H w ρ I (s.H ++ List.replicate (countS G ops.toList) .res) { w with drawn := w.drawn + 1 } :=
  ⟨g.ext, g.kp, g.len, g.imm, g.imm', rfl, rfl, rfl, Nat.le_refl _, fun _ _ _ _ => rfl, fun _ _ _ => rfl, fun _ _ => rfl, g.wrt, g.own⟩
 have m : Mono ρ I w ρ I { w with drawn := w.drawn + 1 } := ⟨fun _ _ h => h, fun _ _ h => ⟨h, rfl⟩, fun _ h => ⟨h, rfl⟩⟩
 have cd : Conc G.g ρ I (s.H ++ List.replicate (countS G ops.toList) .res) { w with drawn := w.drawn + 1 } := by
  refine ⟨cc.dom, cc.res, cc.blt, cc.inj, fun id cs f h => ?_, fun id e h he => ?_, cc.imm, fun g c h => ?_⟩
  ·obtain ⟨b, el, fr, us, k1, k2, k3, k4⟩ := cc.blk id cs f h
   exact ⟨b, el, fr, us, k1, k2, RL_mono m _ _ k3, k4⟩
  ·obtain ⟨q, h⟩ := cc.grow id e h he
   refine ⟨q, ?_⟩
   rcases h with h | ⟨b, el, fr, us, rest, k1, k2, k3, k4⟩
   ·exact .inl h
   ·exact .inr ⟨b, el, fr, us, rest, k1, k2, RL_mono m _ _ k3, k4⟩
  ·obtain ⟨us, k1, k2⟩ := cc.glob g c h
   exact ⟨us, GL_mono m k1, k2⟩
 refine wp_region_any G.follows ?_
 have hnone : (List.range ops.size).filter (fun i => (Array.replicate ops.size false).getD i false) = [] := by
  rw [List.filter_eq_nil_iff]
  intro i _
  rw [getD_rep]
  simp
 rcases hcase with ⟨h1, h23⟩ | ⟨h1, o, f, args, ho, hgd, hac, h23⟩
 ·obtain ⟨h2, h3⟩ := cnd_iff.1 h23
  have hlen : es.length = ops.size := by simpa using h1
  rw [List.nil_append] at h2
  rw [fH_eq] at h3
  refine wpAny_perm (s0 := ⟨s.t, s.H ++ List.replicate (countS G ops.toList) .res⟩) (n0 := ops.size) (KS := fun s2 => s2 = runI es (List.range ops.size) ⟨s.t, s.H ++ List.replicate (countS G ops.toList) .res⟩) (ρb := ρ) (Ib := I) (Hb := s.H) (wb := w) ?_ (indep_of h2) (fun k o hlt hk => h4 k o (by omega) (by simpa using hk)) (fun _ => rfl)
   (fun i o hi ho => absurd (Array.getElem?_eq_some_iff.1 ho).1 (by omega)) ops.size (Array.replicate ops.size false) (by simp) (fun i hi hi' => by omega) (fun j o _ h => by rw [getD_rep] at h; simp at h)
   (Nat.le_trans (List.length_filter_le _ _) (by simp)) ρ I _ a ?_ ?_ ?_
  ·intro ρ' I' s' a' w' hg hC' hR' hs'
   subst hs'
   rw [hlen] at h3
   obtain ⟨g1, g2⟩ := trim_sound ((runI es (List.range ops.size) ⟨s.t, s.H ++ List.replicate (countS G ops.toList) .res⟩).H.length - s.H.length) (H0 := s.H) (by have := hg.len; omega) hg hC'
   exact ⟨ρ', I', ⟨_, _⟩, g1, g2, hR', h3⟩
  ·rw [hnone]; exact cd
  ·rw [hnone]; exact hr.mono m
  ·rw [hnone]; exact gd
 ·obtain ⟨h2, h3⟩ := cnd_iff.1 h23
  obtain ⟨hgo, h3⟩ := cnd_iff.1 h3
  rw [List.nil_append, Bool.and_eq_true] at h2
  obtain ⟨h2, hla⟩ := h2
  rw [fH_eq] at h3
  have hlen : es.length + 1 = ops.size := by simpa using h1
  have ho' : ops[es.length]? = some o := by simpa using ho
  have hne : es.getD es.length noEff = noEff := by simp [List.getD]
  have hfull : runI es (List.range ops.size) ⟨s.t, s.H ++ List.replicate (countS G ops.toList) .res⟩ = runI es (List.range es.length) ⟨s.t, s.H ++ List.replicate (countS G ops.toList) .res⟩ := by
   rw [← hlen, List.range_succ, runI_append]
   simp only [runI, List.foldl_cons, List.foldl_nil, hne]
   rfl
  refine wpAny_perm (s0 := ⟨s.t, s.H ++ List.replicate (countS G ops.toList) .res⟩) (n0 := es.length) (KS := fun s2 => Q .normal s2) (ρb := ρ) (Ib := I) (Hb := s.H) (wb := w) ?_ (indep_of h2) (fun k o hlt hk => h4 k o hlt (by simpa using hk)) (fun hle => by omega)
   (fun i oi hi hoi => ?_) ops.size (Array.replicate ops.size false) (by simp) (fun i hi hi' => getD_rep _ _) (fun j o _ h => by rw [getD_rep] at h; simp at h)
   (Nat.le_trans (List.length_filter_le _ _) (by simp)) ρ I _ a ?_ ?_ ?_
  ·intro ρ' I' s' a' w' hg hC' hR' hs'
   exact ⟨ρ', I', s', hg, hC', hR', hs'⟩
  ·have hlt := (Array.getElem?_eq_some_iff.1 hoi).1
   have hie : i = es.length := by omega
   subst hie
   rw [ho'] at hoi
   simp only [Option.some.injEq] at hoi
   subst hoi
   refine ⟨hne, fun k hk hki => ?_, ?_⟩
   ·unfold lastAll at hla
    rw [List.all_eq_true] at hla
    have := hla k (by simp; omega)
    rwa [← hlen, Nat.add_sub_cancel] at this
   ·intro ρ' I' w' a' next hC' hR' hg' hL
    rw [hfull] at hC' hR' hg'
    obtain ⟨g1, g2⟩ := trim_sound ((runI es (List.range es.length) ⟨s.t, s.H ++ List.replicate (countS G ops.toList) .res⟩).H.length - s.H.length) (H0 := s.H) (by have := hg'.len; omega) hg' hC'
    have re := rel_evA g2 hR'
    obtain ⟨vs, q1, q2⟩ := acall_run re hac (G.goOk f hgo)
    unfold wpOp
    rw [ho']
    simp only [Region.wanted, hgd]
    rw [if_pos trivial]
    left
    unfold Oper.wp
    rw [q1]
    have := hcl _ _ _ _ _ h3 ρ' I' w' a' vs.toList g2 hR' q2
    rw [Array.toArray_toList] at this
    refine Calls.mono this ?_
    rintro e w'' ⟨x, rfl, ρ'', I'', s'', k1, k2, k3, k4⟩
    exact hL ρ'' I'' s'' _ w'' (g1.trans k1) k2 k3 k4
  ·rw [hnone]; exact cd
  ·rw [hnone]; exact hr.mono m
  ·rw [hnone]; exact gd
theorem extH_conc (c : Conc G.g ρ I H w) (n : Nat) : Good ρ I H w ρ I (extH H n) w ∧ Conc G.g ρ I (extH H n) w ∧ (extH H n).length = H.length + n := by
 cases n with
 | zero => exact ⟨Good.refl _ _ _ _, c, rfl⟩
 | succ n => exact ⟨(reserve_conc c (n + 1)).1, (reserve_conc c (n + 1)).2, by simp [extH]⟩
variable {R : ROps G} {T : Ctr G} {cl : FuncId → List AV → St → Option Tmp → (St → Prop) → Prop}
theorem sstep_sound (hcl : ∀ f args s d K, cl f args s d K → callS G f args s d K) (c : Conc G.g ρ I H w) {t : List AV} {a : Act} (r : RelT ρ I w t a) {o : Oper} {K : St → Prop} (h : sstep G R T.C cl o ⟨t, H⟩ K)
  {next : Act → World → Prop} {Q : Exit → Act → World → Prop} (hn : Leads G ρ I H w K next) : o.wp P a w next Q := by
 unfold sstep at h
 split at h
 ·rename_i b v hv
  obtain ⟨hc, hk⟩ := cnd_iff.1 h
  refine step1_sound (K := K) c r ?_ hn
  unfold step1
  rw [hv]
  rw [fPut_eq] at hk
  exact cnd_iff.2 ⟨hc, hk⟩
 ·rename_i hnone
  split at h
  ·rename_i E hE
   obtain ⟨v, u, hh, hk⟩ := Eff.go_has h
   obtain ⟨g1, c1, hl1⟩ := extH_conc c (slots G o.op)
   refine eff_sound R T c1 r hE hh ?_
   intro ρ' I' x w' g c' m r'
   obtain ⟨g2, c2⟩ := trim_sound (slots G o.op) (H0 := H) (by rw [updH_len, hl1]; exact Nat.le_refl _) (g1.trans g) c'
   rw [fPut_eq, fExt_eq] at hk
   exact hn ρ' I' _ _ w' g2 c2 ((r.mono m).put o.dst r') hk
  ·rename_i hE
   split at h
   ·rename_i f args hcall
    obtain ⟨hg, hcs⟩ := cnd_iff.1 h
    have re := rel_evA c r
    obtain ⟨vs, h1, h2⟩ := acall_run re hcall (G.goOk f hg)
    unfold Oper.wp
    rw [h1]
    have := hcl _ _ _ _ _ hcs ρ I w a vs.toList c r h2
    rw [Array.toArray_toList] at this
    refine Calls.mono this ?_
    rintro e w' ⟨x, rfl, ρ', I', s', g1, g2, g3, g4⟩
    exact hn ρ' I' s' _ w' g1 g2 g3 g4
   ·exact (stuckAt_no h).elim
theorem sgstep_sound (hcl : ∀ f args s d K, cl f args s d K → callS G f args s d K) (c : Conc G.g ρ I H w) {t : List AV} {a : Act} (r : RelT ρ I w t a) {ops : Array Oper} {o : Oper} {K : St → Prop} (h : sgstep G R T.C cl ops o ⟨t, H⟩ K)
  {next : Act → World → Prop} {Q : Exit → Act → World → Prop} (hn : Leads G ρ I H w K next) :
  if Region.wanted o (yielded ops a.tmps) then o.wp P a w next Q else next (a.put o.dst undef) w := by
 have take : sstep G R T.C cl o ⟨t, H⟩ K → Region.wanted o (yielded ops a.tmps) = true → if Region.wanted o (yielded ops a.tmps) then o.wp P a w next Q else next (a.put o.dst undef) w := by
  intro h hy
  rw [hy]
  simp only [if_true]
  exact sstep_sound hcl c r h hn
 have skip : K ⟨putA t o.dst (.tup []), H⟩ → Region.wanted o (yielded ops a.tmps) = false → if Region.wanted o (yielded ops a.tmps) then o.wp P a w next Q else next (a.put o.dst undef) w := by
  intro h hy
  rw [hy]
  simp only [Bool.false_eq_true, if_false]
  exact hn ρ I _ _ w (Good.refl _ _ _ _) c (r.put _ rel_undef) h
 unfold sgstep at h
 split at h
 ·rename_i hg
  exact take h (by unfold Region.wanted; rw [hg])
 ·rename_i j want hg
  split at h
  ·rename_i hd
   rw [fPut_eq] at h
   refine skip h ?_
   unfold Region.wanted
   rw [hg]
   have : yielded ops a.tmps j = none := by unfold yielded; rw [hd]; rfl
   simp [this]
  ·rename_i d hd
   split at h
   ·rename_i b hb
    rw [tget_eq] at hb
    have h := ifW_iff.1 h
    by_cases e : b = want
    ·have h1 := h.1 e
     subst e
     simp only at hb
     rw [setB_eq hb] at h1
     refine take h1 ?_
     unfold Region.wanted
     rw [hg]
     simp only
     rw [yielded_of r hd hb]
     simp
    ·have e' : b = !want := by cases b <;> cases want <;> simp_all
     have h1 := h.2 e'
     simp only at hb
     rw [setB_eq (by rw [hb, e']), fPut_eq] at h1
     refine skip h1 ?_
     unfold Region.wanted
     rw [hg]
     simp only
     rw [yielded_of r hd hb]
     simp [e]
   ·rename_i l hl
    rw [tget_eq] at hl
    rw [fPut_eq] at h
    refine skip h ?_
    unfold Region.wanted
    rw [hg]
    simp only
    rw [yielded_tup r hd hl]
    simp
   ·exact (stuckAt_no h).elim
theorem sops_sound (hcl : ∀ f args s d K, cl f args s d K → callS G f args s d K) {ops : Array Oper} {Q : Exit → Act → World → Prop} : ∀ (l : List Oper) {ρ : Rho} {I : Imm} {H : Heap} {w : World} {t : List AV} {a : Act} {K : St → Prop},
  Conc G.g ρ I H w → RelT ρ I w t a → sops G R T.C cl ops l ⟨t, H⟩ K → Leads G ρ I H w K (Q .normal) → wpList P ops Q l a w
 | [], ρ, I, H, w, t, a, K, c, r, h, hn => hn ρ I ⟨t, H⟩ a w (Good.refl _ _ _ _) c r h
 | o :: rest, ρ, I, H, w, t, a, K, c, r, h, hn => by
  have := sgstep_sound hcl (Q := Q) c r (K := fun s' => sops G R T.C cl ops rest s' K) h (next := wpList P ops Q rest)
   (fun ρ' I' s' a' w' g c' r' k => sops_sound hcl rest c' r' k (hn.on g))
  unfold wpList
  split
  ·rename_i hw
   rw [if_pos hw] at this
   exact .inl this
  ·rename_i hw
   rw [if_neg hw] at this
   exact this
theorem Tri.sregion (hcl : ∀ f args s d K, cl f args s d K → callS G f args s d K) {id : Nat} {ops : Array Oper} {Q : Exit → St → Prop} {s : St} (h : sops G R T.C cl ops ops.toList s (Q .normal)) : Tri G (.region id ops false) Q s := by
 intro ρ I a w hc hr
 refine wp_region_list (sops_sound hcl ops.toList hc hr h ?_)
 intro ρ' I' s' a' w' g c r k
 exact ⟨ρ', I', s', g, c, r, k⟩
end
end
noncomputable section
section
variable {P : Program} (G : Env P)
def aresult (s : St) : ResultVar → Option (Bool × AV)
 | .tmp t => some (true, tget s.t t)
 | .cell a t => match G.ty t with
  | some ti => aload ti s.H (tget s.t a)
  | none => none
def aresults (s : St) : List ResultVar → Option (Bool × List AV)
 | [] => some (true, [])
 | r :: rs => match aresult G s r with
  | some (c, v) => match aresults s rs with
   | some (d, l) => some (c && d, v :: l)
   | none => none
  | none => none
def tupA : List AV → AV
 | [v] => v
 | l => .tup l
def endO (r : Option (Bool × List AV)) (k : AV → Prop) : Prop := match r with
 | some (c, l) => cnd c (k (tupA l))
 | none => False
def aend (fn : Func) (R : AV → Heap → Prop) (e : Exit) (s : St) : Prop := match e with
 | .normal => endO (aresults G s fn.results.toList) fun v => R v s.H
 | .ret => endO (aresults G s fn.results.toList) fun v => R v s.H
 | _ => False
end
section
variable {P : Program} {G : Env P} {ρ : Rho} {I : Imm} {H : Heap} {w : World}
theorem aresult_sound (c : Conc G.g ρ I H w) {t : List AV} {a : Act} (r : RelT ρ I w t a) {rv : ResultVar} {p : Bool × AV} (h : aresult G ⟨t, H⟩ rv = some p) (hp : p.1 = true) :
  ∃ x, (match rv with | .tmp t => (pure (a.tmps.getD t undef) : Sem Value) | .cell b t => do loadVar t (← asAddr (a.tmps.getD b undef))).run P w = .ok x w ∧ rel ρ I w p.2 x := by
 have hget : ∀ i, a.tmps.getD i undef = a.tmps.toList.getD i undef := by
  intro i; simp [Array.getD_eq_getD_getElem?, List.getD_eq_getElem?_getD]
 cases rv with
 | tmp i =>
  simp only [aresult, tget_eq, Option.some.injEq] at h
  subst h
  exact ⟨_, rfl, by rw [hget]; exact RV_getD r.tr i⟩
 | cell b ty =>
  simp only [aresult, tget_eq] at h
  split at h
  ·rename_i ti ht
   have hb := RV_getD r.tr b
   obtain ⟨x, h1, h2⟩ := run_loadAt (P := P) c ht hb h hp
   refine ⟨x, ?_, h2⟩
   show (do loadVar ty (← asAddr (a.tmps.getD b undef))).run P w = .ok x w
   rw [hget]
   have : ∃ ad, a.tmps.toList.getD b undef = .pointer (some ad) := by
    unfold aload at h
    cases hq : t.getD b .any <;> rw [hq] at hb h <;> simp [cellsAt, cellsAtX] at h
    ·obtain ⟨b', _, hx⟩ := rel_ptr.1 hb; exact ⟨_, hx⟩
    ·obtain ⟨b', _, _, hx⟩ := rel_pix.1 hb; exact ⟨_, hx⟩
    ·obtain ⟨_, _, b', o, hx, _⟩ := rel_vp.1 hb; exact ⟨_, hx⟩
    ·obtain ⟨_, _, _, b', o, hx, _⟩ := rel_vpx.1 hb; exact ⟨_, hx⟩
   obtain ⟨ad, hx⟩ := this
   rw [hx] at h1 ⊢
   simp only [Instr.loadAt, Instr.sureAddr, Sem.run_bind, Sem.run_pure, Result.andThen_ok] at h1
   simp [asAddr, h1]
  ·simp at h
theorem aresults_sound (c : Conc G.g ρ I H w) {t : List AV} {a : Act} (r : RelT ρ I w t a) : ∀ {rs : List ResultVar} {p : Bool × List AV}, aresults G ⟨t, H⟩ rs = some p → p.1 = true →
  ∃ xs, (rs.mapM (fun rv : ResultVar => (match rv with | .tmp t => (pure (a.tmps.getD t undef) : Sem Value) | .cell b t => do loadVar t (← asAddr (a.tmps.getD b undef))))).run P w = .ok xs w ∧ RV ρ I w p.2 xs
 | [], p, h, _ => by
  simp only [aresults, Option.some.injEq] at h
  subst h
  exact ⟨[], by simp, by simp [RV]⟩
 | rv :: rs, p, h, hp => by
  simp only [aresults] at h
  split at h
  ·rename_i c1 v h1
   split at h
   ·rename_i d l h2
    simp only [Option.some.injEq] at h
    subst h
    simp only [Bool.and_eq_true] at hp
    obtain ⟨x, k1, k2⟩ := aresult_sound c r h1 hp.1
    obtain ⟨xs, k3, k4⟩ := aresults_sound c r h2 hp.2
    refine ⟨x :: xs, ?_, RV_cons.2 ⟨x, xs, rfl, k2, k4⟩⟩
    rw [List.mapM_cons]
    simp only [Sem.run_bind, k1, Result.andThen_ok, k3, Sem.run_pure]
   ·simp at h
  ·simp at h
def resF (tmps : Array Value) : ResultVar → Sem Value
 | .tmp t => pure (tmps.getD t undef)
 | .cell b t => do loadVar t (← asAddr (tmps.getD b undef))
theorem results_eq (fn : Func) (tmps : Array Value) : results fn tmps = (fn.results.mapM (resF tmps) >>= fun vs => pure (if h : vs.size = 1 then vs[0] else .tuple vs)) := rfl
theorem results_sound (c : Conc G.g ρ I H w) {t : List AV} {a : Act} (r : RelT ρ I w t a) {fn : Func} {p : Bool × List AV} (h : aresults G ⟨t, H⟩ fn.results.toList = some p) (hp : p.1 = true) :
  ∃ x, (results fn a.tmps).run P w = .ok x w ∧ rel ρ I w (tupA p.2) x := by
 obtain ⟨xs, h1, h2⟩ := aresults_sound c r h hp
 have h1' : (fn.results.toList.mapM (resF a.tmps)).run P w = .ok xs w := h1
 have hm : (fn.results.mapM (resF a.tmps)).run P w = .ok xs.toArray w := by
  rw [← Array.toArray_toList (xs := fn.results), List.mapM_toArray]
  simp only [Sem.run_map, h1', Result.andThen_ok]
 rw [results_eq]
 simp only [Sem.run_bind, hm, Result.andThen_ok, Sem.run_pure]
 have hlen := RV_len h2
 by_cases e : xs.length = 1
 ·match xs, e, h2 with
  | [x], _, h2 =>
   match hp2 : p.2, h2 with
   | [v], h2 =>
    obtain ⟨y, ys, k1, k2, _⟩ := RV_cons.1 h2
    simp only [List.cons.injEq] at k1
    obtain ⟨rfl, _⟩ := k1
    exact ⟨x, by simp, k2⟩
   | [], h2 => simp [RV] at h2
   | _ :: _ :: _, h2 => have := RV_len h2; simp at this
 ·refine ⟨.tuple xs.toArray, by simp [e], ?_⟩
  match hp2 : p.2, h2 with
  | [v], h2 => have := RV_len h2; simp at this; omega
  | [], h2 => exact rel_tup.2 ⟨_, rfl, by simpa using h2⟩
  | _ :: _ :: _, h2 => exact rel_tup.2 ⟨_, rfl, by simpa using h2⟩
end
end
noncomputable section
mutual
def flA : AV → List AV
 | .agg l => flL l
 | a => [a]
def flL : List AV → List AV
 | [] => []
 | a :: as => flA a ++ flL as
end
def eqF (f f' : List (Nat × Nat)) : Bool := match f, f' with
 | [], [] => true
 | (a, b) :: r, (c, d) :: r' => ((a == c) && (b == d)) && eqF r r'
 | _, _ => false
theorem eqF_eq : ∀ {f f' : List (Nat × Nat)}, eqF f f' = true → f = f'
 | [], [], _ => rfl
 | (a, b) :: r, (c, d) :: r', h => by
  simp only [eqF, Bool.and_eq_true, beq_iff_eq] at h
  obtain ⟨⟨rfl, rfl⟩, h⟩ := h
  rw [eqF_eq h]
 | [], _ :: _, h => by simp [eqF] at h
 | _ :: _, [], h => by simp [eqF] at h
theorem RL_one {ρ : Rho} {I : Imm} {w : World} {a : AV} {xs : List Value} : RL ρ I w [a] xs ↔ R ρ I w a xs := by
 constructor
 ·rintro ⟨ys, zs, rfl, h1, h2⟩
  cases h2
  simpa using h1
 ·exact fun h => ⟨xs, [], by simp, h, rfl⟩
theorem RL_app {ρ : Rho} {I : Imm} {w : World} : ∀ {l l' : List AV} {xs : List Value}, RL ρ I w (l ++ l') xs ↔ ∃ ys zs, xs = ys ++ zs ∧ RL ρ I w l ys ∧ RL ρ I w l' zs
 | [], l', xs => by
  constructor
  ·exact fun h => ⟨[], xs, rfl, rfl, h⟩
  ·rintro ⟨ys, zs, rfl, h1, h2⟩
   cases h1
   exact h2
 | a :: as, l', xs => by
  constructor
  ·rintro ⟨ys, zs, rfl, h1, h2⟩
   obtain ⟨ys', zs', rfl, h3, h4⟩ := RL_app.1 h2
   exact ⟨ys ++ ys', zs', by simp, ⟨ys, ys', rfl, h1, h3⟩, h4⟩
  ·rintro ⟨ys, zs, rfl, ⟨ys1, ys2, rfl, h1, h2⟩, h3⟩
   exact ⟨ys1, ys2 ++ zs, by simp, h1, RL_app.2 ⟨ys2, zs, rfl, h2, h3⟩⟩
section fl
variable {ρ : Rho} {I : Imm} {w : World}
mutual
theorem R_fl : ∀ (a : AV) (xs : List Value), R ρ I w a xs ↔ RL ρ I w (flA a) xs
 | .agg l, xs => RL_fl l xs
 | .any, xs => RL_one.symm
 | .raw _, xs => RL_one.symm
 | .int _ _, xs => RL_one.symm
 | .u8 _, xs => RL_one.symm
 | .u32 _, xs => RL_one.symm
 | .u64 _, xs => RL_one.symm
 | .bool _, xs => RL_one.symm
 | .str _, xs => RL_one.symm
 | .b8 _ _, xs => RL_one.symm
 | .w32 _ _, xs => RL_one.symm
 | .w64 _ _, xs => RL_one.symm
 | .n64 _ _, xs => RL_one.symm
 | .ptr _ _, xs => RL_one.symm
 | .pix _ _ _ _, xs => RL_one.symm
 | .sl _ _ _ _, xs => RL_one.symm
 | .vec8 _ _, xs => RL_one.symm
 | .vec _ _ _, xs => RL_one.symm
 | .vecr _ _ _ _, xs => RL_one.symm
 | .slv _ _ _ _, xs => RL_one.symm
 | .vp _ _, xs => RL_one.symm
 | .vpx _ _ _ _, xs => RL_one.symm
 | .fn _ _ _, xs => RL_one.symm
 | .tup _, xs => RL_one.symm
theorem RL_fl : ∀ (l : List AV) (xs : List Value), RL ρ I w l xs ↔ RL ρ I w (flL l) xs
 | [], _ => Iff.rfl
 | a :: as, xs => by
  show RL ρ I w (a :: as) xs ↔ RL ρ I w (flA a ++ flL as) xs
  rw [RL_app]
  constructor
  ·rintro ⟨ys, zs, h0, h1, h2⟩
   exact ⟨ys, zs, h0, (R_fl a ys).1 h1, (RL_fl as zs).1 h2⟩
  ·rintro ⟨ys, zs, h0, h1, h2⟩
   exact ⟨ys, zs, h0, (R_fl a ys).2 h1, (RL_fl as zs).2 h2⟩
end
end fl
def leRF (c d : List AV) : Prop := okL d = true ∧ ∀ (ρ : Rho) (I : Imm) (w : World) (vs : List Value), RL ρ I w c vs → RL ρ I w d vs
def leR : List AV → List AV → Prop := (sealed leRF).val
theorem leR_eq (c d : List AV) : leR c d = leRF c d := by rw [leR, (sealed leRF).property]
theorem leR.mk {c d : List AV} (h : okL d = true) (h2 : ∀ (ρ : Rho) (I : Imm) (w : World) (vs : List Value), RL ρ I w c vs → RL ρ I w d vs) : leR c d := by rw [leR_eq]; exact ⟨h, h2⟩
theorem leR.ok {c d : List AV} (h : leR c d) : okL d = true := by rw [leR_eq] at h; exact h.1
theorem leR.rl {c d : List AV} (h : leR c d) : ∀ (ρ : Rho) (I : Imm) (w : World) (vs : List Value), RL ρ I w c vs → RL ρ I w d vs := by rw [leR_eq] at h; exact h.2
theorem leR.refl {c : List AV} (h : okL c = true) : leR c c := leR.mk h fun _ _ _ _ r => r
theorem leR.of_eq {c d : List AV} (h : okL d = true) (e : c = d) : leR c d := e ▸ leR.refl (e ▸ h)
theorem leR.trans {a b c : List AV} (h : leR a b) (g : leR b c) : leR a c := leR.mk g.ok fun ρ I w vs r => g.rl ρ I w vs (h.rl ρ I w vs r)
def srcOf : AV → Option (Option Nat)
 | .slv id _ _ _ => some (some id)
 | .sl id _ _ _ => some (some id)
 | .ptr id _ => some (some id)
 | .vec8 true l => bif l.isEmpty then some none else none
 | .vec true _ l => bif l.isEmpty then some none else none
 | _ => none
def srcsOf : List AV → Option (List (Option Nat))
 | [] => some []
 | v :: vs => match srcOf v, srcsOf vs with
  | some r, some rs => some (r :: rs)
  | _, _ => none
def oldId (n : Nat) (srcs : List (Option Nat)) (j : Nat) : Option Nat := bif ltB j n then some j else (srcs.getD (j - n) none)
def isO (i : Nat) : Option Nat → Bool
 | some j => i == j
 | none => false
def nilS : AV → Bool
 | .vec8 true l => l.isEmpty
 | .vec true _ l => l.isEmpty
 | _ => false
def leA1 (n : Nat) (srcs : List (Option Nat)) (a b : AV) (k : Prop) : Prop :=
 match b with
 | .any => cnd (szA a == 1) k
 | .ptr j p => match a with
  | .ptr i o => cnd (isO i (oldId n srcs j) && (o == p)) k
  | _ => False
 | .sl j p c m => match a with
  | .sl i o c' m' => cnd (isO i (oldId n srcs j) && ((o == p) && (c' == c))) (m' = m ∧ k)
  | a => cnd (nilS a) (0 = m ∧ k)
 | .slv j c m g => match a with
  | .slv i c' m' f => cnd (isO i (oldId n srcs j) && (c' == c)) (m' = m ∧ (∀ x, x < m → leR (f x) (g x)) ∧ k)
  | a => cnd (nilS a) (0 = m ∧ k)
 | .vecr full c m g => match a with
  | .vecr full' c' m' f => cnd ((full' || !full) && (c' == c)) (m' = m ∧ (∀ x, x < m → leR (f x) (g x)) ∧ k)
  | .slv _ c' m' f => cnd (!full && (c' == c)) (m' = m ∧ (∀ x, x < m → leR (f x) (g x)) ∧ k)
  | a => cnd (nilS a) (0 = m ∧ k)
 | .vec8 full l => match a with
  | .vec8 full' l' => cnd (full' || !full) (l' = l ∧ k)
  | _ => False
 | b => cnd (refsA n b) (a = b ∧ k)
def leC1 (n : Nat) (srcs : List (Option Nat)) : List AV → List AV → Prop → Prop
 | [], [], k => k
 | a :: as, b :: bs, k => leA1 n srcs a b (leC1 n srcs as bs k)
 | _, _, _ => False
def leAM (n : Nat) (srcs : List (Option Nat)) (a b : AV) (k : Prop) : Prop :=
 match b with
 | .any => k
 | .agg l' => match a with
  | .agg l => leC1 n srcs (flL l) (flL l') k
  | a => cnd (refsL n l') (a = .agg l' ∧ k)
 | b => leA1 n srcs a b k
def leTM (n : Nat) (srcs : List (Option Nat)) : List AV → List AV → Prop → Prop
 | [], [], k => k
 | a :: as, b :: bs, k => leAM n srcs a b (leTM n srcs as bs k)
 | _, _, _ => False
def leEM (n : Nat) (srcs : List (Option Nat)) (e e' : Ent) (k : Prop) : Prop :=
 match e' with
 | .dead => k
 | .blk c' f' => match e with
  | .blk c f => cnd (eqF f f') (leC1 n srcs (flL c) (flL c') k)
  | _ => False
 | .grow8 l' f' => match e with
  | .grow8 l f => cnd (eqF f f') (l = l' ∧ k)
  | _ => False
 | .grow n' r' f' => match e with
  | .grow n2 r f => cnd (((n2 == n') && eqF f f') && refsL n r') (r = r' ∧ k)
  | _ => False
 | .tail k' n' => match e with
  | .tail k2 n2 => cnd (k2 == k') (n2 = n' ∧ k)
  | _ => False
 | .res => False
def leHM (n : Nat) (srcs : List (Option Nat)) : Heap → Heap → Prop → Prop
 | [], [], k => k
 | a :: as, b :: bs, k => leEM n srcs a b (leHM n srcs as bs k)
 | _, _, _ => False
def nilE : Ent → Bool
 | .dead => true
 | .grow8 l f => l.isEmpty && f.isEmpty
 | .grow _ r f => r.isEmpty && f.isEmpty
 | .tail _ n => n == 0
 | _ => false
def leXM (n : Nat) (srcs : List (Option Nat)) (H : Heap) : List (Option Nat) → List Ent → Prop → Prop
 | [], [], k => k
 | s :: ss, e :: es, k => match s with
  | some i => cnd (ltB i H.length) (leEM n srcs (H.getD i .dead) e (leXM n srcs H ss es k))
  | none => cnd (nilE e) (leXM n srcs H ss es k)
 | _, _, _ => False
def apart (n : Nat) (H' : Heap) : List (Option Nat) → Bool
 | [] => true
 | none :: ss => apart n H' ss
 | some i :: ss => ((leB n i || !(H'.getD i .dead).live) && !(ss.contains (some i))) && apart n H' ss
def leM (n : Nat) (vs : List AV) (s : St) (T : List AV) (H' : Heap) (X : List Ent) : Prop :=
 match srcsOf vs with
 | some srcs => cnd ((srcs.length == X.length) && apart n H' srcs) (leTM n srcs s.t T (leHM n srcs (s.H.take n) H' (leXM n srcs s.H srcs X True)))
 | none => False
section
variable {ρ ρ' : Rho} {I : Imm} {w : World}
def movR (n : Nat) (srcs : List (Option Nat)) (ρ : Rho) : Rho := fun j => if j < n then ρ j else match srcs[j - n]? with
 | some (some i) => ρ i
 | some none => some none
 | none => none
theorem movR_old {n : Nat} {srcs : List (Option Nat)} {ρ : Rho} {i j : Nat} (h : isO i (oldId n srcs j) = true) : movR n srcs ρ j = ρ i := by
 unfold oldId at h
 unfold movR
 by_cases hj : j < n
 ·rw [ltB_iff.2 hj] at h
  have : i = j := by simpa [isO] using h
  simp [hj, this]
 ·have hb : ltB j n = false := by
   cases hb : ltB j n with
   | true => exact absurd (ltB_iff.1 hb) hj
   | false => rfl
  rw [hb] at h
  simp only [cond_false] at h
  cases hs : srcs[j - n]? with
  | none => rw [List.getD_eq_getElem?_getD, hs] at h; simp [isO] at h
  | some r =>
   rw [List.getD_eq_getElem?_getD, hs] at h
   cases r with
   | none => simp [isO] at h
   | some i' => have : i = i' := by simpa [isO] using h
                simp [hj, this]
theorem movR_low {n : Nat} {srcs : List (Option Nat)} {ρ : Rho} : ∀ i, i < n → movR n srcs ρ i = ρ i := fun i h => by simp [movR, h]
theorem nilS_val {a : AV} {v : Value} (h : nilS a = true) (r : rel ρ I w a v) : ∃ x, v = .slice x 0 0 := by
 unfold nilS at h
 split at h
 ·rename_i l
  have hl : l = [] := by simpa using h
  subst hl
  obtain ⟨x, cap, h1, _, h3, _⟩ := rel_vec8.1 r
  have := h3 rfl
  simp at this
  exact ⟨x, by rw [h1, this]; rfl⟩
 ·rename_i l
  have hl : l = [] := by simpa using h
  subst hl
  obtain ⟨_, vs, _, x, cap, h1, _, h3, _⟩ := rel_vec.1 r
  have := h3 rfl
  simp at this
  exact ⟨x, by rw [h1, this]; rfl⟩
 ·simp at h
theorem nilS_R {a : AV} (h : nilS a = true) {xs : List Value} (r : R ρ I w a xs) : ∃ x, xs = [.slice x 0 0] := by
 unfold nilS at h
 split at h
 ·rename_i l
  obtain ⟨v, h0, _⟩ := id r
  subst h0
  obtain ⟨x, hx⟩ := nilS_val (ρ := ρ) (I := I) (w := w) (a := .vec8 true l) h r
  exact ⟨x, by rw [hx]⟩
 ·rename_i k l
  obtain ⟨v, h0, _⟩ := id r
  subst h0
  obtain ⟨x, hx⟩ := nilS_val (ρ := ρ) (I := I) (w := w) (a := .vec true k l) h r
  exact ⟨x, by rw [hx]⟩
 ·simp at h
theorem vecr_le {ρ' : Rho} {full full' : Bool} {c m : Nat} {f g : Nat → List AV} {v : Value} (h2 : ∀ x, x < m → leR (f x) (g x)) (hf : full = true → full' = true) (r : rel ρ I w (.vecr full' c m f) v) : rel ρ' I w (.vecr full c m g) v := by
 obtain ⟨k3, vs, k4, k5, a, cap, k6, k7, k8, k9⟩ := rel_vecr.1 r
 exact rel_vecr.2 ⟨fun i hi => (h2 i hi).ok, vs, k4, fun i hi =>
  RL_refs (n := 0) (fun _ h => by omega) _ _ (refsL_pure _ (okL_pure (h2 i hi).ok) 0) ((h2 i hi).rl _ _ _ _ (k5 i hi)), a, cap, k6, k7, fun h => k8 (hf h), k9⟩
theorem nil_vecr {full : Bool} {c : Nat} {g : Nat → List AV} {x : Option Addr} : rel ρ I w (.vecr full c 0 g) (.slice x 0 0) :=
 rel_vecr.2 ⟨fun i h => by omega, [], by simp, fun i h => by omega, x, 0, rfl, Nat.le_refl _, fun _ => rfl, .inl rfl⟩
theorem leA1_sound {n : Nat} {srcs : List (Option Nat)} (hρ : ∀ i j, isO i (oldId n srcs j) = true → ρ' j = ρ i) (hlow : ∀ i, i < n → ρ' i = ρ i) {a b : AV} {k : Prop} (h : leA1 n srcs a b k) :
  (∀ xs, R ρ I w a xs → R ρ' I w b xs) ∧ k := by
 unfold leA1 at h
 split at h
 ·obtain ⟨h1, h2⟩ := cnd_iff.1 h
  refine ⟨fun xs r => ?_, h2⟩
  have := R_len _ _ r
  rw [beq_iff_eq] at h1
  rw [h1] at this
  match xs, this with
  | [y], _ => exact ⟨y, rfl⟩
 ·split at h
  ·obtain ⟨h1, h2⟩ := cnd_iff.1 h
   simp only [Bool.and_eq_true, beq_iff_eq] at h1
   obtain ⟨h1, rfl⟩ := h1
   refine ⟨?_, h2⟩
   rintro xs ⟨v, rfl, b, q1, q2⟩
   exact ⟨v, rfl, b, by rw [hρ _ _ h1]; exact q1, q2⟩
  ·exact h.elim
 ·split at h
  ·obtain ⟨h1, rfl, h2⟩ := cnd_iff.1 h
   simp only [Bool.and_eq_true, beq_iff_eq] at h1
   obtain ⟨h1, rfl, rfl⟩ := h1
   refine ⟨?_, h2⟩
   rintro xs ⟨v, rfl, q⟩
   refine ⟨v, rfl, ?_⟩
   rcases q with ⟨b, cap, q1, q2⟩ | q
   ·exact .inl ⟨b, cap, by rw [hρ _ _ h1]; exact q1, q2⟩
   ·exact .inr q
  ·obtain ⟨h1, rfl, h2⟩ := cnd_iff.1 h
   refine ⟨fun xs r => ?_, h2⟩
   obtain ⟨x, rfl⟩ := nilS_R h1 r
   exact ⟨_, rfl, .inr ⟨rfl, x, rfl⟩⟩
 ·split at h
  ·obtain ⟨h1, rfl, h2, h3⟩ := cnd_iff.1 h
   simp only [Bool.and_eq_true, beq_iff_eq] at h1
   obtain ⟨h1, rfl⟩ := h1
   refine ⟨?_, h3⟩
   rintro xs ⟨v, rfl, r⟩
   obtain ⟨k1, k2⟩ := rel_slv.1 (show rel ρ I w (.slv _ _ _ _) v from ⟨v, rfl, r⟩)
   have := rel_slv.2 ⟨vecr_le (ρ' := ρ') h2 (fun h => h) k1, (by
    rcases k2 with ⟨b, cap, q1, q2⟩ | q
    ·exact .inl ⟨b, cap, by rw [hρ _ _ h1]; exact q1, q2⟩
    ·exact .inr q : slR ρ' w _ 0 _ _ v)⟩
   exact this
  ·obtain ⟨h1, rfl, h2⟩ := cnd_iff.1 h
   refine ⟨fun xs r => ?_, h2⟩
   obtain ⟨x, rfl⟩ := nilS_R h1 r
   exact rel_slv.2 ⟨nil_vecr, .inr ⟨rfl, x, rfl⟩⟩
 ·split at h
  ·obtain ⟨h1, rfl, h2, h3⟩ := cnd_iff.1 h
   simp only [Bool.and_eq_true, beq_iff_eq, Bool.or_eq_true, Bool.not_eq_true'] at h1
   obtain ⟨h1, rfl⟩ := h1
   refine ⟨?_, h3⟩
   rintro xs ⟨v, rfl, r⟩
   have := vecr_le (ρ' := ρ') h2 (fun hf => h1.resolve_right fun h => Bool.noConfusion (hf.symm.trans h)) (show rel ρ I w (.vecr _ _ _ _) v from ⟨v, rfl, r⟩)
   exact this
  ·obtain ⟨h1, rfl, h2, h3⟩ := cnd_iff.1 h
   simp only [Bool.and_eq_true, beq_iff_eq, Bool.not_eq_true'] at h1
   obtain ⟨rfl, rfl⟩ := h1
   refine ⟨?_, h3⟩
   rintro xs ⟨v, rfl, r⟩
   have := vecr_le (ρ' := ρ') h2 (fun h => h) (rel_slv.1 (show rel ρ I w (.slv _ _ _ _) v from ⟨v, rfl, r⟩)).1
   exact this
  ·obtain ⟨h1, rfl, h2⟩ := cnd_iff.1 h
   refine ⟨fun xs r => ?_, h2⟩
   obtain ⟨x, rfl⟩ := nilS_R h1 r
   exact nil_vecr
 ·split at h
  ·obtain ⟨h1, rfl, h2⟩ := cnd_iff.1 h
   refine ⟨?_, h2⟩
   rintro xs ⟨v, rfl, a, cap, k6, k7, k8, k9⟩
   refine ⟨v, rfl, a, cap, k6, k7, fun hf => k8 ?_, k9⟩
   rw [hf] at h1
   simpa using h1
  ·exact h.elim
 ·obtain ⟨h1, rfl, h2⟩ := cnd_iff.1 h
  exact ⟨fun xs r => R_refs hlow _ xs h1 r, h2⟩
theorem leR_same {a : AV} {as bs : List AV} (ha : okL [a] = true) (hr : leR as bs) : leR (a :: as) (a :: bs) := by
 refine leR.mk ?_ fun ρ I w vs r => ?_
 ·have h1 := okL_pure hr.ok; have h2 := okL_one hr.ok
  have h3 := okL_pure ha; have h4 := okL_one ha
  simp only [pureL, oneL, Bool.and_true] at h3 h4
  simp only [okL, pureL, oneL, h1, h2, h3, h4, Bool.and_self]
 ·obtain ⟨ys, zs, rfl, q, r2⟩ := RL_cons.1 r
  exact RL_cons.2 ⟨ys, zs, rfl, q, hr.rl _ _ _ _ r2⟩
theorem leR_end : leR [] [] := leR.refl rfl
theorem valOf_ag {a : AV} (ha : a ≠ .any) {v : Value} {Ra : List Value → Prop} : valOf a v Ra ↔ if isAg a then ∃ cs : Array Value, v = .agg cs ∧ Ra cs.toList else Ra [v] := by
 cases a <;> first | exact absurd rfl ha | exact Iff.rfl
theorem rel_of_le {a b : AV} (hag : isAg a = isAg b) (ha : a = .any → b = .any) (h : ∀ xs, R ρ I w a xs → R ρ' I w b xs) {v : Value} (r : rel ρ I w a v) : rel ρ' I w b v := by
 by_cases hb : b = .any
 ·subst hb; exact rel_any
 ·have ha' : a ≠ .any := fun e => hb (ha e)
  have r1 := (valOf_ag ha').1 r
  refine (valOf_ag hb).2 ?_
  rw [← hag]
  split at r1
  ·rename_i hg
   rw [if_pos hg]
   obtain ⟨cs, h1, h2⟩ := r1
   exact ⟨cs, h1, h _ h2⟩
  ·rename_i hg
   rw [if_neg hg]
   exact h _ r1
theorem nilS_ag {a : AV} (h : nilS a = true) : isAg a = false ∧ a ≠ .any := by
 unfold nilS at h
 split at h
 ·exact ⟨rfl, by simp⟩
 ·exact ⟨rfl, by simp⟩
 ·cases h
theorem leA1_ag {n : Nat} {srcs : List (Option Nat)} {a b : AV} {k : Prop} (hb : b ≠ .any) (h : leA1 n srcs a b k) : isAg a = isAg b ∧ (a = .any → b = .any) := by
 unfold leA1 at h
 split at h
 ·exact absurd rfl hb
 ·split at h
  ·exact ⟨rfl, by simp⟩
  ·exact h.elim
 ·split at h
  ·exact ⟨rfl, by simp⟩
  ·obtain ⟨q1, q2⟩ := nilS_ag (cnd_iff.1 h).1
   exact ⟨q1, fun e => absurd e q2⟩
 ·split at h
  ·exact ⟨rfl, by simp⟩
  ·obtain ⟨q1, q2⟩ := nilS_ag (cnd_iff.1 h).1
   exact ⟨q1, fun e => absurd e q2⟩
 ·split at h
  ·exact ⟨rfl, by simp⟩
  ·exact ⟨rfl, by simp⟩
  ·obtain ⟨q1, q2⟩ := nilS_ag (cnd_iff.1 h).1
   exact ⟨q1, fun e => absurd e q2⟩
 ·split at h
  ·exact ⟨rfl, by simp⟩
  ·exact h.elim
 ·obtain ⟨_, rfl, _⟩ := cnd_iff.1 h
  exact ⟨rfl, fun e => e⟩
theorem leC1_sound {n : Nat} {srcs : List (Option Nat)} (hρ : ∀ i j, isO i (oldId n srcs j) = true → ρ' j = ρ i) (hlow : ∀ i, i < n → ρ' i = ρ i) : ∀ {c d : List AV} {k : Prop}, leC1 n srcs c d k → (∀ xs, RL ρ I w c xs → RL ρ' I w d xs) ∧ k
 | [], [], k, h => ⟨fun _ h => h, h⟩
 | a :: as, b :: bs, k, h => by
  obtain ⟨h1, h2⟩ := leA1_sound (I := I) (w := w) hρ hlow (k := leC1 n srcs as bs k) h
  obtain ⟨h3, h4⟩ := leC1_sound hρ hlow h2
  refine ⟨fun xs r => ?_, h4⟩
  obtain ⟨ys, zs, rfl, k1, k2⟩ := RL_cons.1 r
  exact RL_cons.2 ⟨ys, zs, rfl, h1 _ k1, h3 _ k2⟩
 | [], _ :: _, k, h => h.elim
 | _ :: _, [], k, h => h.elim
theorem leAM_sound {n : Nat} {srcs : List (Option Nat)} (hρ : ∀ i j, isO i (oldId n srcs j) = true → ρ' j = ρ i) (hlow : ∀ i, i < n → ρ' i = ρ i) {a b : AV} {k : Prop} (h : leAM n srcs a b k) :
  (∀ v, rel ρ I w a v → rel ρ' I w b v) ∧ k := by
 unfold leAM at h
 split at h
 ·exact ⟨fun _ _ => rel_any, h⟩
 ·split at h
  ·obtain ⟨h1, h2⟩ := leC1_sound (I := I) (w := w) hρ hlow h
   refine ⟨fun v r => ?_, h2⟩
   obtain ⟨cs, rfl, r2⟩ := rel_agg.1 r
   exact rel_agg.2 ⟨cs, rfl, (RL_fl _ _).2 (h1 _ ((RL_fl _ _).1 r2))⟩
  ·obtain ⟨h1, rfl, h2⟩ := cnd_iff.1 h
   exact ⟨fun v r => rel_refs hlow (by simpa [refsA] using h1) r, h2⟩
 ·rename_i hany hagg
  obtain ⟨h1, h2⟩ := leA1_sound (I := I) (w := w) hρ hlow h
  obtain ⟨q1, q2⟩ := leA1_ag hany h
  exact ⟨fun v r => rel_of_le q1 q2 h1 r, h2⟩
theorem leTM_sound {n : Nat} {srcs : List (Option Nat)} (hρ : ∀ i j, isO i (oldId n srcs j) = true → ρ' j = ρ i) (hlow : ∀ i, i < n → ρ' i = ρ i) : ∀ {t T : List AV} {k : Prop}, leTM n srcs t T k → (∀ vs, RV ρ I w t vs → RV ρ' I w T vs) ∧ k
 | [], [], k, h => ⟨fun _ h => h, h⟩
 | a :: as, b :: bs, k, h => by
  obtain ⟨h1, h2⟩ := leAM_sound (I := I) (w := w) hρ hlow (k := leTM n srcs as bs k) h
  obtain ⟨h3, h4⟩ := leTM_sound hρ hlow h2
  refine ⟨fun vs r => ?_, h4⟩
  obtain ⟨x, xs, rfl, k1, k2⟩ := RV_cons.1 r
  exact RV_cons.2 ⟨x, xs, rfl, h1 _ k1, h3 _ k2⟩
 | [], _ :: _, k, h => h.elim
 | _ :: _, [], k, h => h.elim
end
def weakM (n : Nat) (srcs : List (Option Nat)) (e e' : Ent) : Prop :=
 e' = .dead ∨ (∃ c c' f, e = .blk c f ∧ e' = .blk c' f ∧ ∀ (ρ ρ' : Rho) I w, (∀ i j, isO i (oldId n srcs j) = true → ρ' j = ρ i) → (∀ i, i < n → ρ' i = ρ i) → ∀ xs, RL ρ I w c xs → RL ρ' I w c' xs) ∨ (e = e' ∧ e'.grows = true ∧ refsE n e' = true)
theorem leEM_sound {n : Nat} {srcs : List (Option Nat)} {e e' : Ent} {k : Prop} (h : leEM n srcs e e' k) : weakM n srcs e e' ∧ k := by
 unfold leEM at h
 split at h
 ·exact ⟨.inl rfl, h⟩
 ·split at h
  ·obtain ⟨h1, h2⟩ := cnd_iff.1 h
   cases eqF_eq h1
   have hk : k := (leC1_sound (ρ := fun _ => none) (ρ' := fun _ => none) (I := fun _ _ => True) (w := default) (fun _ _ _ => rfl) (fun _ _ => rfl) h2).2
   exact ⟨.inr (.inl ⟨_, _, _, rfl, rfl, fun ρ ρ' I w q1 q2 xs r => (RL_fl _ _).2 ((leC1_sound (I := I) (w := w) q1 q2 h2).1 xs ((RL_fl _ _).1 r))⟩), hk⟩
  ·exact h.elim
 ·split at h
  ·obtain ⟨h1, rfl, h2⟩ := cnd_iff.1 h
   cases eqF_eq h1
   exact ⟨.inr (.inr ⟨rfl, rfl, rfl⟩), h2⟩
  ·exact h.elim
 ·split at h
  ·obtain ⟨h1, rfl, h2⟩ := cnd_iff.1 h
   simp only [Bool.and_eq_true, beq_iff_eq] at h1
   obtain ⟨⟨rfl, h1⟩, h3⟩ := h1
   cases eqF_eq h1
   exact ⟨.inr (.inr ⟨rfl, rfl, h3⟩), h2⟩
  ·exact h.elim
 ·split at h
  ·obtain ⟨h1, rfl, h2⟩ := cnd_iff.1 h
   simp only [beq_iff_eq] at h1
   subst h1
   exact ⟨.inr (.inr ⟨rfl, rfl, rfl⟩), h2⟩
  ·exact h.elim
 ·exact h.elim
theorem leHM_sound {n : Nat} {srcs : List (Option Nat)} : ∀ {H H' : Heap} {k : Prop}, leHM n srcs H H' k → (H.length = H'.length ∧ ∀ (i : Nat) (e e' : Ent), H[i]? = some e → H'[i]? = some e' → weakM n srcs e e') ∧ k
 | [], [], k, h => ⟨⟨rfl, fun _ _ _ h => by simp at h⟩, h⟩
 | a :: as, b :: bs, k, h => by
  obtain ⟨h1, h2⟩ := leEM_sound h
  obtain ⟨⟨h3, h5⟩, h4⟩ := leHM_sound h2
  refine ⟨⟨by simp [h3], fun i e e' g g' => ?_⟩, h4⟩
  cases i with
  | zero => simp at g g'; subst g; subst g'; exact h1
  | succ i => exact h5 i e e' (by simpa using g) (by simpa using g')
 | [], _ :: _, k, h => h.elim
 | _ :: _, [], k, h => h.elim
theorem leXM_sound {n : Nat} {srcs : List (Option Nat)} {H : Heap} : ∀ {ss : List (Option Nat)} {X : List Ent} {k : Prop}, leXM n srcs H ss X k →
  (∀ (j : Nat) (e' : Ent), X[j]? = some e' → (∃ i e, ss[j]? = some (some i) ∧ H[i]? = some e ∧ weakM n srcs e e') ∨ (ss[j]? = some none ∧ nilE e' = true)) ∧ k
 | [], [], k, h => ⟨fun _ _ h => by simp at h, h⟩
 | s :: ss, e :: es, k, h => by
  unfold leXM at h
  split at h
  ·rename_i i
   obtain ⟨h1, h2⟩ := cnd_iff.1 h
   obtain ⟨h3, h4⟩ := leEM_sound h2
   obtain ⟨h5, h6⟩ := leXM_sound h4
   refine ⟨fun j e' hj => ?_, h6⟩
   cases j with
   | zero =>
    simp at hj; subst hj
    have hlt := ltB_iff.1 h1
    refine .inl ⟨i, H[i], rfl, by simp [hlt], ?_⟩
    rw [List.getD_eq_getElem?_getD, List.getElem?_eq_getElem hlt] at h3
    exact h3
   | succ j => exact h5 j e' (by simpa using hj)
  ·obtain ⟨h1, h2⟩ := cnd_iff.1 h
   obtain ⟨h5, h6⟩ := leXM_sound h2
   refine ⟨fun j e' hj => ?_, h6⟩
   cases j with
   | zero => simp at hj; subst hj; exact .inr ⟨rfl, h1⟩
   | succ j => exact h5 j e' (by simpa using hj)
 | [], _ :: _, k, h => h.elim
 | _ :: _, [], k, h => by cases ‹Option Nat› <;> exact h.elim
theorem apart_spec {n : Nat} {H' : Heap} : ∀ {ss : List (Option Nat)}, apart n H' ss = true → (∀ (j i : Nat), ss[j]? = some (some i) → n ≤ i ∨ (H'.getD i .dead).live = false) ∧ (∀ (j j' i : Nat), ss[j]? = some (some i) → ss[j']? = some (some i) → j = j')
 | [], _ => ⟨fun _ _ h => by simp at h, fun _ _ _ h => by simp at h⟩
 | none :: ss, h => by
  obtain ⟨h1, h2⟩ := apart_spec (ss := ss) h
  refine ⟨fun j i q => ?_, fun j j' i q q' => ?_⟩
  ·cases j with
   | zero => simp at q
   | succ j => exact h1 j i (by simpa using q)
  ·cases j with
   | zero => simp at q
   | succ j => cases j' with
    | zero => simp at q'
    | succ j' => rw [h2 j j' i (by simpa using q) (by simpa using q')]
 | some i0 :: ss, h => by
  simp only [apart, Bool.and_eq_true, Bool.or_eq_true, Bool.not_eq_true'] at h
  obtain ⟨⟨ha, hb⟩, hc⟩ := h
  obtain ⟨h1, h2⟩ := apart_spec (ss := ss) hc
  have hno : ∀ j, ss[j]? ≠ some (some i0) := fun j q => by
   have := List.mem_of_getElem? q
   rw [List.contains_eq_mem] at hb
   simp at hb
   exact hb this
  refine ⟨fun j i q => ?_, fun j j' i q q' => ?_⟩
  ·cases j with
   | zero =>
    simp at q; subst q
    rcases ha with ha | ha
    ·exact .inl (leB_iff.1 ha)
    ·exact .inr ha
   | succ j => exact h1 j i (by simpa using q)
  ·cases j with
   | zero =>
    simp at q; subst q
    cases j' with
    | zero => rfl
    | succ j' => exact absurd (by simpa using q') (hno j')
   | succ j => cases j' with
    | zero => simp at q'; subst q'; exact absurd (by simpa using q) (hno j)
    | succ j' => rw [h2 j j' i (by simpa using q) (by simpa using q')]
section
variable {P : Program} {G : Env P} {ρ : Rho} {I : Imm} {w : World}
set_option maxHeartbeats 1000000 in
theorem leM_sound {n : Nat} {vs : List AV} {s : St} {T : List AV} {H' : Heap} {X : List Ent} (h : leM n vs s T H' X) (c : Conc G.g ρ I s.H w) {a : Act} (r : RelT ρ I w s.t a) {ρ0 : Rho} {I0 : Imm} {H0 : Heap} {w0 : World}
  (gd : Good ρ0 I0 H0 w0 ρ I s.H w) (hd : ∀ id, ρ0 id ≠ none → id < n) (hle : H0.length ≤ n) (hl' : H'.length = n) (hn : n ≤ s.H.length) : ∃ ρ', Good ρ0 I0 H0 w0 ρ' I (H' ++ X) w ∧ Conc G.g ρ' I (H' ++ X) w ∧ RelT ρ' I w T a := by
 unfold leM at h
 split at h
 case h_2 => exact h.elim
 rename_i srcs _
 obtain ⟨h1, h2⟩ := cnd_iff.1 h
 simp only [Bool.and_eq_true, beq_iff_eq] at h1
 obtain ⟨hlen, hap⟩ := h1
 obtain ⟨hap1, hap2⟩ := apart_spec hap
 have hmov : ∀ i j, isO i (oldId n srcs j) = true → movR n srcs ρ j = ρ i := fun i j h => movR_old h
 have hlow : ∀ i, i < n → movR n srcs ρ i = ρ i := movR_low
 obtain ⟨hT, h3⟩ := leTM_sound (I := I) (w := w) hmov hlow h2
 obtain ⟨⟨_, hH⟩, h4⟩ := leHM_sound h3
 obtain ⟨hX, _⟩ := leXM_sound h4
 have from_ : ∀ (j : Nat) (e' : Ent), (H' ++ X)[j]? = some e' → (∃ i e, s.H[i]? = some e ∧ weakM n srcs e e' ∧ movR n srcs ρ j = ρ i ∧ ((j < n ∧ i = j) ∨ (n ≤ j ∧ srcs[j - n]? = some (some i)))) ∨ (n ≤ j ∧ movR n srcs ρ j = some none ∧ nilE e' = true) := by
  intro j e' hj
  rcases Nat.lt_or_ge j n with hjn | hjn
  ·rw [List.getElem?_append_left (by omega)] at hj
   have : j < s.H.length := by omega
   exact .inl ⟨j, s.H[j], by simp [this], hH j _ e' (by simp [hjn, this]) hj, hlow j hjn, .inl ⟨hjn, rfl⟩⟩
  ·rw [List.getElem?_append_right (by omega), hl'] at hj
   rcases hX _ _ hj with ⟨i, e, q1, q2, q3⟩ | ⟨q1, q2⟩
   ·exact .inl ⟨i, e, q2, q3, by simp [movR, Nat.not_lt.2 hjn, q1], .inr ⟨hjn, q1⟩⟩
   ·exact .inr ⟨hjn, by simp [movR, Nat.not_lt.2 hjn, q1], q2⟩
 have gl : ∀ (e : Ent), e.grows = true → e.live = true := by intro e h; cases e <;> simp_all [Ent.grows, Ent.live]
 have wlive : ∀ {e e' : Ent}, weakM n srcs e e' → e'.live = true → e.live = true ∧ e.frz = e'.frz ∧ (e'.grows = true → e = e') := by
  intro e e' hw hl
  rcases hw with rfl | ⟨c, c', f, rfl, rfl, _⟩ | ⟨rfl, _⟩
  ·simp [Ent.live] at hl
  ·exact ⟨rfl, rfl, fun h => by simp [Ent.grows] at h⟩
  ·exact ⟨hl, rfl, fun _ => rfl⟩
 have own1 : ∀ (j : Nat) (e' : Ent) (b : Nat), (H' ++ X)[j]? = some e' → e'.live = true → movR n srcs ρ j = some (some b) → ∃ i e, s.H[i]? = some e ∧ e.live = true ∧ e.frz = e'.frz ∧ ρ i = some (some b) := by
  intro j e' b hj hl hb
  rcases from_ j e' hj with ⟨i, e, q1, q2, q3, _⟩ | ⟨_, q2, _⟩
  ·obtain ⟨k1, k2, _⟩ := wlive q2 hl
   exact ⟨i, e, q1, k1, k2, by rw [← q3]; exact hb⟩
  ·rw [q2] at hb; simp at hb
 have mutb : ∀ b o, Mut (movR n srcs ρ) (H' ++ X) b o → Mut ρ s.H b o := by
  rintro b o ⟨j, e', q1, q2, q3, q4⟩
  obtain ⟨i, e, k1, k2, k3, k4⟩ := own1 j e' b q1 q2 q3
  exact ⟨i, e, k1, k2, k4, k3 ▸ q4⟩
 have ownb : ∀ b, Own (movR n srcs ρ) (H' ++ X) b → Own ρ s.H b := by
  rintro b ⟨j, e', q1, q2, q3⟩
  obtain ⟨i, e, k1, k2, _, k4⟩ := own1 j e' b q1 q2 q3
  exact ⟨i, e, k1, k2, k4⟩
 refine ⟨movR n srcs ρ, ⟨fun id x h => ?_, fun id x h ⟨e, q1, q2⟩ => ?_, by simp; omega, gd.imm, gd.imm', gd.os, gd.tape, gd.out, gd.size, gd.cell, gd.block, gd.bs, fun b o hb h => gd.wrt b o hb (mutb b o h), fun b hb h => gd.own b hb (ownb b h)⟩,
  ⟨?_, ?_, ?_, ?_, ?_, ?_, fun b o h => ⟨(c.imm b o h).1, fun hm => (c.imm b o h).2 (mutb b o hm)⟩, c.glob⟩, hT _ r.tr, r.defers⟩
 ·rw [hlow id (hd id (by simp [h]))]; exact gd.ext id x h
 ·have hid := hd id (by simp [h])
  rcases from_ id e q1 with ⟨i, e0, k1, k2, k3, k4⟩ | ⟨k1, _⟩
  ·rcases k4 with ⟨_, rfl⟩ | ⟨k4, _⟩
   ·obtain ⟨_, _, k5⟩ := wlive k2 (gl e q2)
    cases k5 q2
    exact gd.kp i x h ⟨_, k1, q2⟩
   ·omega
  ·omega
 ·intro id h
  by_cases e : id < n
  ·simp; omega
  ·unfold movR at h
   simp only [e, if_false] at h
   have : id - n < srcs.length := by
    rcases Nat.lt_or_ge (id - n) srcs.length with h' | h'
    ·exact h'
    ·rw [List.getElem?_eq_none h'] at h; simp at h
   simp; omega
 ·intro id h
  exfalso
  rcases from_ id _ h with ⟨i, e, _, q2, _⟩ | ⟨_, _, q⟩
  ·rcases q2 with q2 | ⟨_, _, _, _, q2, _⟩ | ⟨_, q2, _⟩
   ·simp at q2
   ·simp at q2
   ·simp [Ent.grows] at q2
  ·simp [nilE] at q
 ·intro id b h
  by_cases e : id < n
  ·rw [hlow id e] at h; exact c.blt id b h
  ·unfold movR at h
   simp only [e, if_false] at h
   split at h
   ·exact c.blt _ b h
   ·simp at h
   ·simp at h
 ·intro i j b e e' hi l1 hj l2 hbi hbj
  rcases from_ i e hi with ⟨i0, e0, q1, q2, q3, q4⟩ | ⟨_, q2, _⟩
  case inr => rw [q2] at hbi; simp at hbi
  rcases from_ j e' hj with ⟨j0, f0, p1, p2, p3, p4⟩ | ⟨_, p2, _⟩
  case inr => rw [p2] at hbj; simp at hbj
  have heq := c.inj i0 j0 b e0 f0 q1 (wlive q2 l1).1 p1 (wlive p2 l2).1 (q3 ▸ hbi) (p3 ▸ hbj)
  subst heq
  have lowlive : ∀ k ek, (H' ++ X)[k]? = some ek → ek.live = true → k < n → (H'.getD k .dead).live = true := by
   intro k ek hk hl hkn
   rw [List.getElem?_append_left (by omega)] at hk
   rw [List.getD_eq_getElem?_getD, hk]
   exact hl
  rcases q4 with ⟨q4, rfl⟩ | ⟨q4, q5⟩
  ·rcases p4 with ⟨p4, rfl⟩ | ⟨p4, p5⟩
   ·rfl
   ·rcases hap1 _ _ p5 with h' | h'
    ·omega
    ·rw [lowlive i0 e hi l1 q4] at h'; simp at h'
  ·rcases p4 with ⟨p4, rfl⟩ | ⟨p4, p5⟩
   ·rcases hap1 _ _ q5 with h' | h'
    ·omega
    ·rw [lowlive i0 e' hj l2 p4] at h'; simp at h'
   ·have := hap2 _ _ _ q5 p5
    omega
 ·intro id cs f h
  rcases from_ id _ h with ⟨i, e, q1, q2, q3, _⟩ | ⟨_, _, q⟩
  ·rcases q2 with q2 | ⟨c0, c', f0, rfl, q2, q5⟩ | ⟨_, q2, _⟩
   ·simp at q2
   ·simp only [Ent.blk.injEq] at q2
    obtain ⟨rfl, rfl⟩ := q2
    obtain ⟨b, el, fr, us, p1, p2, p3, p4⟩ := c.blk i c0 f q1
    exact ⟨b, el, fr, us, by rw [q3]; exact p1, p2, q5 _ _ _ _ hmov hlow us p3, p4⟩
   ·simp [Ent.grows] at q2
  ·simp [nilE] at q
 ·intro id e h he
  rcases from_ id _ h with ⟨i, e0, q1, q2, q3, _⟩ | ⟨_, q2, q⟩
  ·rcases q2 with rfl | ⟨_, _, _, _, rfl, _⟩ | ⟨rfl, q2, q5⟩
   ·simp [Ent.grows] at he
   ·simp [Ent.grows] at he
   ·obtain ⟨p0, p⟩ := c.grow i e0 q1 he
    refine ⟨p0, ?_⟩
    rcases p with ⟨p1, p2⟩ | ⟨b, el, fr, us, rest, p1, p2, p3, p4⟩
    ·exact .inl ⟨by rw [q3]; exact p1, p2⟩
    ·refine .inr ⟨b, el, fr, us, rest, by rw [q3]; exact p1, p2, RL_refs hlow e0.cells us ?_ p3, p4⟩
     cases e0 <;> first | exact q5 | rfl
  ·cases e with
   | grow8 l f =>
    simp only [nilE, Bool.and_eq_true, List.isEmpty_iff] at q
    obtain ⟨rfl, rfl⟩ := q
    exact ⟨trivial, .inl ⟨q2, rfl⟩⟩
   | grow k rows f =>
    simp only [nilE, Bool.and_eq_true, List.isEmpty_iff] at q
    obtain ⟨rfl, rfl⟩ := q
    exact ⟨fun a h => by simp at h, .inl ⟨q2, rfl⟩⟩
   | tail k m => exact ⟨trivial, .inl ⟨q2, rfl⟩⟩
   | _ => simp [Ent.grows] at he
end
end
noncomputable section
inductive LPlan where
 | none
 | unroll (n : Nat)
 | inv (α : Type) (ok : α → Prop) (m : α → Nat) (T : α → List AV) (H : α → Heap)
 | invg (α : Type) (g : Nat) (ok : AV → α → Prop) (m : α → Nat) (T : α → List AV) (H : α → Heap)
 | rel (keep gs : List Nat) (α : Type) (ok : List AV → α → Prop) (m : α → Nat) (T : α → List (Nat × AV)) (H : α → List (Nat × Ent))
 | mv (keep gs : List Nat) (α : Type) (ok : List AV → α → Prop) (m : α → Nat) (ds : St → List AV) (T : Nat → α → List (Nat × AV)) (H : Nat → α → List (Nat × Ent)) (X : α → List Ent)
def keepT (keep : List Nat) : Nat → List AV → List AV
 | _, [] => []
 | i, a :: as => (bif keep.contains i then a else .any) :: keepT keep (i + 1) as
def setAt : List AV → Nat → AV → List AV
 | [], _, _ => []
 | _ :: as, 0, x => x :: as
 | a :: as, n + 1, x => a :: setAt as n x
def updT : List AV → List (Nat × AV) → List AV
 | t, [] => t
 | t, (i, x) :: u => updT (setAt t i x) u
def setE : Heap → Nat → Ent → Heap
 | [], _, _ => []
 | _ :: as, 0, x => x :: as
 | a :: as, n + 1, x => a :: setE as n x
def deadR : Heap → Heap
 | [] => []
 | e :: H => (match e with | .res => .dead | e => e) :: deadR H
def updE : Heap → List (Nat × Ent) → Heap
 | H, [] => deadR H
 | H, (i, x) :: u => updE (setE H i x) u
def frid : Code → Nat
 | .region id _ _ => id
 | .seq a _ => frid a
 | .cond _ a _ => frid a
 | .block _ c => frid c
 | .loop c => frid c
 | _ => 0
def leA (a b : AV) (k : Prop) : Prop :=
 match b with
 | .any => k
 | .ptr j p => match a with
  | .ptr i o => cnd ((i == j) && (o == p)) k
  | _ => False
 | .slv j p m g => match a with
  | .slv i o n f => cnd ((i == j) && (o == p)) (n = m ∧ (∀ x, x < m → f x = g x) ∧ k)
  | _ => False
 | b => a = b ∧ k
def leT : List AV → List AV → Prop → Prop
 | [], [], k => k
 | a :: as, b :: bs, k => leA a b (leT as bs k)
 | _, _, _ => False
def leC : List AV → List AV → Prop → Prop
 | [], [], k => k
 | a :: as, b :: bs, k => match b with
  | .any => cnd (szA a == 1) (leC as bs k)
  | .ptr j p => match a with
   | .ptr i o => cnd ((i == j) && (o == p)) (leC as bs k)
   | _ => False
  | b => a = b ∧ leC as bs k
 | _, _, _ => False
def leE (e e' : Ent) (k : Prop) : Prop :=
 match e' with
 | .dead => k
 | .blk c' f' => match e with
  | .blk c f => cnd (eqF f f') (leC (flL c) (flL c') k)
  | _ => False
 | .grow8 l' f' => match e with
  | .grow8 l f => cnd (eqF f f') (l = l' ∧ k)
  | _ => False
 | .grow n' r' f' => match e with
  | .grow n r f => cnd ((n == n') && eqF f f') (r = r' ∧ k)
  | _ => False
 | .tail k' n' => match e with
  | .tail k2 n => cnd (k2 == k') (n = n' ∧ k)
  | _ => False
 | .res => False
def leH : Heap → Heap → Prop → Prop
 | [], [], k => k
 | a :: as, b :: bs, k => leE a b (leH as bs k)
 | _, _, _ => False
def leS (n : Nat) (s : St) (T : List AV) (H : Heap) : Prop := leT s.t T (leH (s.H.take n) H True)
def refsOk (n : Nat) (T : List AV) (H : Heap) : Bool := refsL n T && H.all fun e => match e with
 | .blk c _ => refsL n c
 | .grow _ rows _ => refsL n rows
 | _ => true
def fS (s : St) (k : St → Prop) : Prop := fL s.t fun t => fH s.H fun H => k ⟨t, H⟩
theorem fS_eq (s : St) (k : St → Prop) : fS s k = k s := by simp only [fS, fL_eq, fH_eq]
def loopU (F : (Exit → St → Prop) → St → Prop) : Nat → (Exit → St → Prop) → St → Prop
 | 0, _, _ => False
 | n + 1, Q, s => F (thenA (loopU F n Q) Q) s
def loopV (pl : LPlan) (F : (Exit → St → Prop) → St → Prop) (Q : Exit → St → Prop) (s : St) : Prop :=
 match pl with
 | .none => False
 | .unroll n => loopU F n Q s
 | .inv α ok m T H => (∃ a : α, ok a ∧ leS s.H.length s (T a) (H a)) ∧
   ∀ a : α, ok a → cnd (((H a).length == s.H.length) && refsOk s.H.length (T a) (H a)) (fS ⟨T a, H a⟩ (F (thenA (fun s' => ∃ b : α, (m b < m a ∧ ok b) ∧ leS s.H.length s' (T b) (H b)) Q)))
 | .invg α g ok m T H => (∃ a : α, ok (s.t.getD g .any) a ∧ leS s.H.length s (T a) (H a)) ∧
   ∀ a : α, ok (s.t.getD g .any) a → cnd (((H a).length == s.H.length) && refsOk s.H.length (T a) (H a)) (fS ⟨T a, H a⟩ (F (thenA (fun s' => ∃ b : α, (m b < m a ∧ ok (s.t.getD g .any) b) ∧ leS s.H.length s' (T b) (H b)) Q)))
 | .rel keep gs α ok m T H => (∃ a : α, ok (gs.map fun i => s.t.getD i .any) a ∧ leS s.H.length s (updT (keepT keep 0 s.t) (T a)) (updE s.H (H a))) ∧
   ∀ a : α, ok (gs.map fun i => s.t.getD i .any) a → cnd (((updE s.H (H a)).length == s.H.length) && refsOk s.H.length (updT (keepT keep 0 s.t) (T a)) (updE s.H (H a))) (fS ⟨updT (keepT keep 0 s.t) (T a), updE s.H (H a)⟩ (F (thenA (fun s' => ∃ b : α, (m b < m a ∧ ok (gs.map fun i => s.t.getD i .any) b) ∧ leS s.H.length s' (updT (keepT keep 0 s.t) (T b)) (updE s.H (H b))) Q)))
 | .mv keep gs α ok m ds T H X => (∃ a : α, ok (gs.map fun i => s.t.getD i .any) a ∧ leM s.H.length (ds s) s (updT (keepT keep 0 s.t) (T s.H.length a)) (updE s.H (H s.H.length a)) (X a)) ∧
   ∀ a : α, ok (gs.map fun i => s.t.getD i .any) a → cnd ((updE s.H (H s.H.length a)).length == s.H.length) (fS ⟨updT (keepT keep 0 s.t) (T s.H.length a), updE s.H (H s.H.length a) ++ X a⟩ (F (thenA (fun s' => ∃ b : α, (m b < m a ∧ ok (gs.map fun i => s.t.getD i .any) b) ∧ cnd (leB s.H.length s'.H.length) (leM s.H.length (ds s') s' (updT (keepT keep 0 s.t) (T s.H.length b)) (updE s.H (H s.H.length b)) (X b))) Q)))
def swapA (l : Nat) (Z : Exit → St → Prop) : Exit → St → Prop
 | .goto l', s => bif l' == l then Z .normal s else False
 | .normal, s => Z (.goto l) s
 | e, s => Z e s
def scopeV (pl : LPlan) (F : (Exit → St → Prop) → St → Prop) (Q : Exit → St → Prop) (s : St) : Prop :=
 match pl with
 | .mv _ _ _ _ _ _ _ _ _ => loopV pl F Q s
 | _ => False
def qEs (n : Nat) (H : Heap) : Bool := @List.rec Ent (fun _ => Bool) true (fun e _ ih => (match e with
 | .blk c _ => qL n c
 | .grow _ rows _ => qL n rows
 | _ => true) && ih) H
theorem qEs_eq (n : Nat) : ∀ H : Heap, qEs n H = refsOk n [] H
 | [] => rfl
 | e :: r => by
  have h := qEs_eq n r
  unfold refsOk at h ⊢
  have e1 : refsL n [] = true := rfl
  rw [e1, Bool.true_and] at h ⊢
  rw [List.all_cons, ← h]
  cases e <;> simp only [qEs, qL_eq]
def gcH (n : Nat) (v : AV) (H : Heap) : Heap := bif qA n v && qEs n (H.take n) then H.take n else H
def condT (t : List AV) (c : Operand) (v : AV) (x y : List AV → Prop) : Prop := match v with
 | .bool b => match c with
  | .tmp d => ite2 b (setB t d true x) (setB t d false y)
  | _ => ite2 b (x t) (y t)
 | _ => stuckIn 1 v
section
variable {P : Program} (G : Env P) (R : ROps G) (C : FuncId → List AV → Option (Bool × Out))
def aw3 (cl : FuncId → List AV → St → Option Tmp → (St → Prop) → Prop) (L : Nat → LPlan) : Code → (Exit → St → Prop) → St → Prop
 | .skip, Q, s => Q .normal s
 | .label _, Q, s => Q .normal s
 | .exit id, Q, s => Q (.exit id) s
 | .goto l, Q, s => Q (.goto l) s
 | .ret, Q, s => Q .ret s
 | .seq x y, Q, s => aw3 cl L x (thenA (aw3 cl L y Q) Q) s
 | .cond c x y, Q, s => condT s.t c (evA G s.t c) (fun t => aw3 cl L x Q ⟨t, s.H⟩) (fun t => aw3 cl L y Q ⟨t, s.H⟩)
 | .block id c, Q, s => aw3 cl L c (blockA id Q) s
 | .region _ ops false, Q, s => sops G R C cl ops ops.toList s (Q .normal)
 | .region _ ops true, Q, s => dopsL G R C ops ops.toList s.H.length ⟨s.t, s.H ++ List.replicate (countS G ops.toList) .res⟩ [] (drawn ops fun e s' => fH (trim (s'.H.length - s.H.length) s'.H) fun H => Q e ⟨s'.t, H⟩)
   (fun o f args s' tr => cnd (indepB ops tr && lastAll ops) (cnd (G.go f) (fH (trim (s'.H.length - s.H.length) s'.H) fun H => cl f args ⟨s'.t, H⟩ o.dst (Q .normal))))
 | .loop c, Q, s => loopV (L (frid c)) (fun Q s => aw3 cl L c Q s) Q s
 | .scope (.seq (.label l) x), Q, s => scopeV (L (frid x)) (fun Z s => aw3 cl L x (swapA l Z) s) (swapA l Q) s
 | _, _, _ => False
def cinl (L : FuncId → Nat → LPlan) : Nat → FuncId → List AV → St → Option Tmp → (St → Prop) → Prop
 | 0, f, _, _, _, _ => stuckIn (1000 + f) .any
 | n + 1, f, args, s, d, K => match P.funcs[f]? with
  | some fn => match fn.body with
   | some c => fL (args ++ List.replicate (fn.ntmps - args.length) (.tup [])) fun t => aw3 G R C (cinl L n) (L f) c (aend G fn fun v H' => fPut s.t d v fun t => fH (gcH s.H.length v H') fun H => K ⟨t, H⟩) ⟨t, s.H⟩
   | none => False
  | none => False
mutual
def refsOfA : AV → List Nat
 | .sl id _ _ _ => [id]
 | .slv id _ _ _ => [id]
 | .ptr id _ => [id]
 | .tup l => refsOf l
 | .agg l => refsOf l
 | _ => []
def refsOf : List AV → List Nat
 | [] => []
 | a :: as => refsOfA a ++ refsOf as
end
def dedup : List Nat → List Nat → List Nat
 | [], acc => acc
 | a :: as, acc => bif acc.contains a then dedup as acc else dedup as (acc ++ [a])
def posIn : List Nat → Nat → Nat
 | [], _ => 0
 | a :: as, i => bif a == i then 0 else posIn as i + 1
end
mutual
def colA (ids : List Nat) : AV → AV
 | .sl id off k len => .sl (posIn ids id) off k len
 | .slv id k n f => .slv (posIn ids id) k n f
 | .ptr id off => .ptr (posIn ids id) off
 | .agg l => .agg (colL ids l)
 | .tup l => .tup (colL ids l)
 | a => a
def colL (ids : List Nat) : List AV → List AV
 | [] => []
 | a :: as => colA ids a :: colL ids as
end
mutual
def colOk (ids : List Nat) : AV → Bool
 | .sl id _ _ _ => ids.contains id
 | .slv id _ _ _ => ids.contains id
 | .ptr id _ => ids.contains id
 | .agg l => colOkL ids l
 | .tup l => colOkL ids l
 | a => refsA 0 a
def colOkL (ids : List Nat) : List AV → Bool
 | [] => true
 | a :: as => colOk ids a && colOkL ids as
end
def colE (H : Heap) : List Nat → Bool
 | [] => true
 | i :: r => (match H[i]? with
  | some e => e.live && refsE 0 e
  | none => false) && colE H r
def collectK (K : AV → Heap → Prop) (v : AV) (H : Heap) : Prop :=
 let ids := dedup (refsOf [v]) []
 cnd (colOk ids v && colE H ids) (K (colA ids v) (ids.map fun i => H.getD i .dead))
section
variable {P : Program} (G : Env P) (R : ROps G) (C : FuncId → List AV → Option (Bool × Out))
def walk (L : FuncId → Nat → LPlan) (n : Nat) (f : FuncId) (args : List AV) (K : AV → Heap → Prop) : Prop :=
 match P.funcs[f]? with
 | some fn => match fn.body with
  | some c => fL (args ++ List.replicate (fn.ntmps - args.length) (.tup [])) fun t => aw3 G R C (cinl G R C L n) (L f) c (aend G fn (collectK K)) ⟨t, []⟩
  | none => False
 | none => False
end
end
end Go.V