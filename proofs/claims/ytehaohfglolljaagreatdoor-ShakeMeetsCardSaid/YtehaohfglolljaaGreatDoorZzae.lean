import Derived.Test.YtehaohfglolljaaGreatDoorZzad
import Derived.Deep.AppendSrc
import Derived.Laws.AppendOwn
import Derived.Laws.MakeOwn
import Derived.Great.BuildSlice
import Derived.Laws.IdiomCopy
set_option linter.unusedSimpArgs false
set_option linter.unusedVariables false
namespace Go.V
open Go
noncomputable section
section
variable {P : Program} {G : Env P} {g : Nat → Option (List AV)} {ρ : Rho} {I : Imm} {H : Heap} {w : World}
theorem zdd (c : Conc g ρ I H w) {nid : Nat} (hn : H[nid]? = some .res) (e : Ent) (x : Option Nat) {w' : World} (hx : ∀ b, x = some b → w.heap.size ≤ b ∧ b < w'.heap.size) (hsz : w.heap.size ≤ w'.heap.size)
  (hold : ∀ b, b < w.heap.size → w'.heap[b]? = w.heap[b]?) (hl : e.live = true)
  (h1 : ∀ cs f, e = .blk cs f → ∃ b el fr us, x = some b ∧ w'.heap[b]? = some (.cells (List.toArray us) el fr) ∧ RL ρ I w cs us ∧ clear fr us.length)
  (h2 : e.grows = true → e.even ∧ ((x = none ∧ szL e.cells = 0) ∨ ∃ b el fr cs rest, x = some b ∧ w'.heap[b]? = some (.cells (List.toArray (cs ++ rest)) el fr) ∧ RL ρ I w e.cells cs ∧ clear fr (cs ++ rest).length))
  (hos : w'.os = w.os) (htape : w'.tape = w.tape) (hout : w'.output = w.output) :
  Good ρ I H w (z1e ρ nid x) I (H.set nid e) w' ∧ Conc g (z1e ρ nid x) I (H.set nid e) w' ∧ Mono ρ I w (z1e ρ nid x) I w' := by
 have hlt : nid < H.length := (List.getElem?_eq_some_iff.1 hn).1;have hnone := c.res nid hn;have hset : ∀ i e1, (H.set nid e)[i]? = some e1 → (i = nid ∧ e1 = e) ∨ (i ≠ nid ∧ H[i]? = some e1) := fun i e1 h => z17 h
 have ho : ∀ i, i ≠ nid → z1e ρ nid x i = ρ i := fun i hi => by simp [z1e, hi]
 have hnew : z1e ρ nid x nid = some x := by simp [z1e]
 have gd : Good ρ I H w (z1e ρ nid x) I (H.set nid e) w' := by
  refine ⟨fun id y h => z92 hnone h, fun id y h ⟨e1, k1, k2⟩ => ?_, by simp, fun _ _ h => h, fun _ _ _ h => .inl h, hos, htape, hout, hsz, fun b off h _ => by simp only [World.cell?, hold b h], fun b h _ => hold b h,
   fun b h => by unfold bsz; rw [hold b h], ?_, ?_⟩
  ·rcases hset id e1 k1 with ⟨rfl, _⟩ | ⟨_, k⟩
   ·rw [hnone] at h; simp at h
   ·exact ⟨e1, k, k2⟩
  ·rintro b off hb ⟨i, e1, k1, k2, k3, k4⟩;rcases hset i e1 k1 with ⟨rfl, rfl⟩ | ⟨hi, h⟩
   ·rw [hnew] at k3; have := hx b (by simpa using k3); omega
   ·rw [ho i hi] at k3; exact ⟨i, e1, h, k2, k3, k4⟩
  ·rintro b hb ⟨i, e1, k1, k2, k3⟩;rcases hset i e1 k1 with ⟨rfl, rfl⟩ | ⟨hi, h⟩
   ·rw [hnew] at k3; have := hx b (by simpa using k3); omega
   ·rw [ho i hi] at k3; exact ⟨i, e1, h, k2, k3⟩
 have m := c.mono gd fun id y h => z92 hnone h
 refine ⟨gd, ⟨?_, ?_, ?_, ?_, ?_, ?_, ?_, ?_⟩, m⟩
 ·intro id h
  by_cases e : id = nid
  ·subst e; simpa using hlt
  ·rw [ho id e] at h; simpa using c.dom id h
 ·intro id h;rcases hset id _ h with ⟨_, h'⟩ | ⟨hi, h'⟩
  ·rw [← h'] at hl; simp [Ent.live] at hl
  ·rw [ho id hi]; exact c.res id h'
 ·intro id b h
  by_cases e : id = nid
  ·subst e; rw [hnew] at h; exact (hx b (by simpa using h)).2
  ·rw [ho id e] at h; have := c.blt id b h; omega
 ·intro i j b e1 e2 hi l1 hj l2 hbi hbj;rcases hset i e1 hi with ⟨rfl, rfl⟩ | ⟨ki, hi'⟩ <;> rcases hset j e2 hj with ⟨rfl, rfl⟩ | ⟨kj, hj'⟩
  ·rfl
  ·rw [hnew] at hbi; rw [ho j kj] at hbj; have := hx b (by simpa using hbi); have := c.blt j b hbj; omega
  ·rw [hnew] at hbj; rw [ho i ki] at hbi; have := hx b (by simpa using hbj); have := c.blt i b hbi; omega
  ·rw [ho i ki] at hbi; rw [ho j kj] at hbj; exact c.inj i j b e1 e2 hi' l1 hj' l2 hbi hbj
 ·intro id cs f h;rcases hset id _ h with ⟨rfl, h'⟩ | ⟨hi, h'⟩
  ·obtain ⟨b, el, fr, us, k0, k1, k2, k3⟩ := h1 cs f h'.symm;exact ⟨b, el, fr, us, by rw [hnew, k0], k1, z15 m _ _ k2, k3⟩
  ·obtain ⟨b, el', fr, us, k1, k2, k3, k4⟩ := c.blk id cs f h';exact ⟨b, el', fr, us, by rw [ho id hi]; exact k1, by rw [hold b (c.blt id b k1)]; exact k2, z15 m _ _ k3, k4⟩
 ·intro id e1 h he;rcases hset id _ h with ⟨rfl, rfl⟩ | ⟨hi, h'⟩
  ·obtain ⟨q, k⟩ := h2 he;refine ⟨q, ?_⟩;rcases k with ⟨k0, k1⟩ | ⟨b, el, fr, us, rest, k0, k1, k2, k3⟩
   ·exact .inl ⟨by rw [hnew, k0], k1⟩
   ·exact .inr ⟨b, el, fr, us, rest, by rw [hnew, k0], k1, z15 m _ _ k2, k3⟩
  ·obtain ⟨q, h'⟩ := c.grow id e1 h' he;refine ⟨q, ?_⟩;rcases h' with ⟨k1, k2⟩ | ⟨b, el', fr, us, rest, k1, k2, k3, k4⟩
   ·exact .inl ⟨by rw [ho id hi]; exact k1, k2⟩
   ·exact .inr ⟨b, el', fr, us, rest, by rw [ho id hi]; exact k1, by rw [hold b (c.blt id b k1)]; exact k2, z15 m _ _ k3, k4⟩
 ·intro b o hb;obtain ⟨q1, q2⟩ := c.imm b o hb;exact ⟨by omega, fun h => q2 (gd.wrt b o q1 h)⟩
 ·intro gl cs h;obtain ⟨us, q1, q2⟩ := c.glob gl cs h;exact ⟨us, z4q m q1, q2.mono m.imm⟩
theorem zqt (c : Conc g ρ I H w) (id : Nat) : (H[id]? ≠ some .res) → Good ρ I H w ρ I (H.set id .dead) w ∧ Conc g ρ I (H.set id .dead) w := by
 intro hne;have hset : ∀ i e1, (H.set id .dead)[i]? = some e1 → (i = id ∧ e1 = .dead) ∨ (i ≠ id ∧ H[i]? = some e1) := fun i e1 h => z17 h
 have live : ∀ (i : Nat) (e1 : Ent), (H.set id .dead)[i]? = some e1 → e1.live = true → H[i]? = some e1 := by
  intro i e1 h hl;rcases hset i e1 h with ⟨_, rfl⟩ | ⟨_, h⟩
  ·simp [Ent.live] at hl
  ·exact h
 have gl : ∀ (e : Ent), e.grows = true → e.live = true := by intro e h; cases e <;> simp_all [Ent.grows, Ent.live]
 have gd : Good ρ I H w ρ I (H.set id .dead) w :=
  ⟨fun _ _ h => h, fun i x _ ⟨e, h1, h2⟩ => ⟨e, live i e h1 (gl e h2), h2⟩, by simp, fun _ _ h => h, fun _ _ _ h => .inl h, rfl, rfl, rfl, Nat.le_refl _, fun _ _ _ _ => rfl, fun _ _ _ => rfl, fun _ _ => rfl,
   fun b o _ ⟨i, e, h1, h2, h3, h4⟩ => ⟨i, e, live i e h1 h2, h2, h3, h4⟩, fun b _ ⟨i, e, h1, h2, h3⟩ => ⟨i, e, live i e h1 h2, h2, h3⟩⟩
 refine ⟨gd, fun i h => by simpa using c.dom i h, fun i h => ?_, c.blt, fun i j b e e' hi l1 hj l2 => c.inj i j b e e' (live i e hi l1) l1 (live j e' hj l2) l2,
  fun i cs f h => c.blk i cs f (live i _ h rfl), fun i e h he => c.grow i e (live i _ h (gl e he)) he, fun b o h => ⟨(c.imm b o h).1, fun hm => (c.imm b o h).2 (gd.wrt b o (c.imm b o h).1 hm)⟩, c.glob⟩
 rcases hset i _ h with ⟨_, h⟩ | ⟨_, h⟩
 ·simp at h
 ·exact c.res i h
theorem z14i (c : Conc g ρ I H w) {id nid : Nat} {e : Ent} {y : Option Nat} (hid : H[id]? = some e) (hl : e.live = true) (hy : ρ id = some y) (hn : H[nid]? = some .res) :
  Good ρ I H w (z1e ρ nid y) I ((H.set nid e).set id .dead) w ∧ Conc g (z1e ρ nid y) I ((H.set nid e).set id .dead) w ∧ Mono ρ I w (z1e ρ nid y) I w := by
 have hne : id ≠ nid := by rintro rfl; rw [hid] at hn; simp at hn; subst hn; simp [Ent.live] at hl
 have hlt : nid < H.length := (List.getElem?_eq_some_iff.1 hn).1;have hlt' : id < H.length := (List.getElem?_eq_some_iff.1 hid).1;have hnone := c.res nid hn;have ho : ∀ i, i ≠ nid → z1e ρ nid y i = ρ i := fun i hi => by simp [z1e, hi]
 have hnew : z1e ρ nid y nid = some y := by simp [z1e]
 have hset : ∀ i e1, ((H.set nid e).set id .dead)[i]? = some e1 → (i = id ∧ e1 = .dead) ∨ (i = nid ∧ e1 = e) ∨ (i ≠ nid ∧ i ≠ id ∧ H[i]? = some e1) := by
  intro i e1 h;rcases z17 h with h | ⟨h1, h2⟩
  ·exact .inl h
  ·rcases z17 h2 with h | ⟨h3, h4⟩
   ·exact .inr (.inl h)
   ·exact .inr (.inr ⟨h3, h1, h4⟩)
 have old : ∀ (i : Nat) (e1 : Ent), ((H.set nid e).set id .dead)[i]? = some e1 → e1.live = true → ∃ j, H[j]? = some e1 ∧ z1e ρ nid y i = ρ j ∧ ((i = nid ∧ j = id) ∨ (i ≠ nid ∧ i ≠ id ∧ j = i)) := by
  intro i e1 h h1;rcases hset i e1 h with ⟨_, rfl⟩ | ⟨rfl, rfl⟩ | ⟨h2, h3, h4⟩
  ·simp [Ent.live] at h1
  ·exact ⟨id, hid, by rw [hnew, hy], .inl ⟨rfl, rfl⟩⟩
  ·exact ⟨i, h4, ho i h2, .inr ⟨h2, h3, rfl⟩⟩
 have gl : ∀ (e : Ent), e.grows = true → e.live = true := by intro e h; cases e <;> simp_all [Ent.grows, Ent.live]
 have gd : Good ρ I H w (z1e ρ nid y) I ((H.set nid e).set id .dead) w := by
  refine ⟨fun id x h => z92 hnone h, fun i x hx ⟨e1, k1, k2⟩ => ?_, by simp, fun _ _ h => h, fun _ _ _ h => .inl h, rfl, rfl, rfl, Nat.le_refl _, fun _ _ _ _ => rfl, fun _ _ _ => rfl, fun _ _ => rfl, ?_, ?_⟩
  ·rcases hset i e1 k1 with ⟨_, rfl⟩ | ⟨rfl, rfl⟩ | ⟨_, _, h⟩
   ·simp [Ent.grows] at k2
   ·rw [hnone] at hx; simp at hx
   ·exact ⟨e1, h, k2⟩
  ·rintro b o hb ⟨i, e1, h1, h2, h3, h4⟩;obtain ⟨j, k1, k2, _⟩ := old i e1 h1 h2;exact ⟨j, e1, k1, h2, k2 ▸ h3, h4⟩
  ·rintro b hb ⟨i, e1, h1, h2, h3⟩;obtain ⟨j, k1, k2, _⟩ := old i e1 h1 h2;exact ⟨j, e1, k1, h2, k2 ▸ h3⟩
 have m := c.mono gd fun id x h => z92 hnone h
 refine ⟨gd, ⟨?_, ?_, ?_, ?_, ?_, ?_, ?_, ?_⟩, m⟩
 ·intro i h
  by_cases e : i = nid
  ·subst e; simpa using hlt
  ·rw [ho i e] at h; simpa using c.dom i h
 ·intro i h;rcases hset i _ h with ⟨_, h'⟩ | ⟨_, h'⟩ | ⟨h1, _, h'⟩
  ·simp at h'
  ·rw [← h'] at hl; simp [Ent.live] at hl
  ·rw [ho i h1]; exact c.res i h'
 ·intro i b h
  by_cases e : i = nid
  ·subst e; rw [hnew, ← hy] at h; exact c.blt id b h
  ·rw [ho i e] at h; exact c.blt i b h
 ·intro i j b e1 e2 hi l1 hj l2 hbi hbj;obtain ⟨i', a1, a2, a3⟩ := old i e1 hi l1;obtain ⟨j', b1, b2, b3⟩ := old j e2 hj l2;have := c.inj i' j' b e1 e2 a1 l1 b1 l2 (a2 ▸ hbi) (b2 ▸ hbj);rcases a3 with ⟨_, _⟩ | ⟨_, _, _⟩ <;> rcases b3 with ⟨_, _⟩ | ⟨_, _, _⟩ <;> omega
 ·intro i cs f h;obtain ⟨j, k1, k2, _⟩ := old i _ h rfl;obtain ⟨b, el, fr, us, q1, q2, q3, q4⟩ := c.blk j cs f k1;exact ⟨b, el, fr, us, by rw [k2]; exact q1, q2, z15 m _ _ q3, q4⟩
 ·intro i e1 h he;obtain ⟨j, k1, k2, _⟩ := old i _ h (gl e1 he);obtain ⟨q, h'⟩ := c.grow j e1 k1 he;refine ⟨q, ?_⟩;rcases h' with ⟨q1, q2⟩ | ⟨b, el, fr, us, rest, q1, q2, q3, q4⟩
  ·exact .inl ⟨by rw [k2]; exact q1, q2⟩
  ·exact .inr ⟨b, el, fr, us, rest, by rw [k2]; exact q1, q2, z15 m _ _ q3, q4⟩
 ·intro b o hb;obtain ⟨q1, q2⟩ := c.imm b o hb;exact ⟨q1, fun h => q2 (gd.wrt b o q1 h)⟩
 ·intro gl cs h;obtain ⟨us, q1, q2⟩ := c.glob gl cs h;exact ⟨us, z4q m q1, q2.mono m.imm⟩
theorem z17w (c : Conc g ρ I (H ++ [.res]) w) : Conc g ρ I H w := by
 have up : ∀ (i : Nat) (e : Ent), H[i]? = some e → (H ++ [.res])[i]? = some e := fun i e h => by
  rw [List.getElem?_append_left (List.getElem?_eq_some_iff.1 h).1]; exact h
 refine ⟨fun id h => ?_, fun id h => c.res id (up id _ h), c.blt, fun i j b e e' hi l1 hj l2 => c.inj i j b e e' (up i e hi) l1 (up j e' hj) l2, fun i cs f h => c.blk i cs f (up i _ h), fun i e h he => c.grow i e (up i _ h) he,
  fun b o h => ⟨(c.imm b o h).1, fun ⟨i, e, h1, h2⟩ => (c.imm b o h).2 ⟨i, e, up i e h1, h2⟩⟩, c.glob⟩
 have h1 := c.dom id h;refine Classical.byContradiction fun h2 => h (c.res id ?_)
 have : id = H.length := by simp at h1; omega
 subst this; simp
theorem zs1 {ρ0 : Rho} {I0 : Imm} {H0 : Heap} {w0 : World} (hl : H0.length ≤ H.length) (gd : Good ρ0 I0 H0 w0 ρ I (H ++ [.res]) w) : Good ρ0 I0 H0 w0 ρ I H w := by
 have up : ∀ (i : Nat) (e : Ent), H[i]? = some e → (H ++ [.res])[i]? = some e := fun i e h => by
  rw [List.getElem?_append_left (List.getElem?_eq_some_iff.1 h).1]; exact h
 exact ⟨gd.ext, fun i x h ⟨e, h1, h2⟩ => gd.kp i x h ⟨e, up i e h1, h2⟩, hl, gd.imm, gd.imm', gd.os, gd.tape, gd.out, gd.size, gd.cell, gd.block, gd.bs, fun b o hb ⟨i, e, h1, h2⟩ => gd.wrt b o hb ⟨i, e, up i e h1, h2⟩,
  fun b hb ⟨i, e, h1, h2⟩ => gd.own b hb ⟨i, e, up i e h1, h2⟩⟩
end
end
noncomputable section
inductive Eff where
 | one (c : Bool) (v : AV) (u : List (Nat × Ent))
 | br (b : Bool) (x y : Eff)
 | ck (b : Bool) (x : Eff)
 | bad
 deriving Inhabited
def Eff.go : Eff → (AV → List (Nat × Ent) → Prop) → Prop
 | .one c v u, K => cnd c (K v u)
 | .br b x y, K => za b (x.go K) (y.go K)
 | .ck b x, K => cnd b (x.go K)
 | .bad, _ => False
def Eff.has : Eff → AV → List (Nat × Ent) → Prop
 | .one c v u, v', u' => c = true ∧ v' = v ∧ u' = u
 | .br b x y, v', u' => match b with
  | true => x.has v' u'
  | false => y.has v' u'
 | .ck b x, v', u' => b = true ∧ x.has v' u'
 | .bad, _, _ => False
theorem Eff.z1lv : ∀ {E : Eff} {K : AV → List (Nat × Ent) → Prop}, E.go K → ∃ v u, E.has v u ∧ K v u
 | .one c v u, K, h => let ⟨h1, h2⟩ := zd.1 h; ⟨v, u, ⟨h1, rfl, rfl⟩, h2⟩
 | .ck b x, K, h => let ⟨h1, h2⟩ := zd.1 h; let ⟨v, u, h3, h4⟩ := Eff.z1lv (E := x) h2; ⟨v, u, ⟨h1, h3⟩, h4⟩
 | .br true x y, K, h => Eff.z1lv (E := x) h
 | .br false x y, K, h => Eff.z1lv (E := y) h
 | .bad, K, h => h.elim
def zcx : AV → List Nat
 | .ptr id _ => [id]
 | .pix id _ _ _ => [id]
 | .sl id _ _ _ => [id]
 | .slv id _ _ _ => [id]
 | _ => []
mutual
def z3v : AV → List Nat
 | .ptr id _ => [id]
 | .pix id _ _ _ => [id]
 | .sl id _ _ _ => [id]
 | .slv id _ _ _ => [id]
 | .agg l => z4b l
 | _ => []
def z4b : List AV → List Nat
 | [] => []
 | a :: as => z3v a ++ z4b as
end
def z1p : AV → List Nat
 | .ptr id _ => [id]
 | .pix id _ _ _ => [id]
 | .sl id _ _ _ => [id]
 | .slv id _ _ _ => [id]
 | .agg l => z4b l
 | .fn _ a b => a.flatMap z3v ++ b.flatMap z3v
 | _ => []
theorem zu2 {a : AV} {id : Nat} (h : id ∈ z3v a) : id ∈ z1p a := by cases a <;> simp_all [z3v, z1p]
theorem zui {a : AV} {id : Nat} (h : id ∈ zcx a) : id ∈ z3v a := by cases a <;> simp_all [z3v, zcx]
def zi6 (ev : Operand → AV) (l : List Operand) : List Nat := l.flatMap fun x => z1p (ev x)
def z7c : Nat := 3
def upTo (nid : Nat) : Nat → List Nat
 | 0 => []
 | n + 1 => nid :: upTo (nid + 1) n
def z1u (ev : Operand → AV) (op : Op) (nid n : Nat) : List Nat :=
 match op with
 | .move _ => []
 | .assign _ => []
 | .pick _ _ _ => []
 | .extract _ _ => []
 | .fieldAddr _ _ _ => []
 | .indexAddr _ _ _ => []
 | .index _ _ _ => []
 | .field _ _ _ => []
 | .binOp _ _ _ _ _ => []
 | .unOp _ _ _ => []
 | .nilCheck _ => []
 | .makeFunc _ _ _ => []
 | .build _ _ => []
 | .load _ a => z1p (ev a)
 | .store _ a _ => z1p (ev a)
 | op => zi6 ev op.operands.toList ++ upTo nid n
section
variable {P : Program} (G : Env P)
def EffOk (ρ : Rho) (I : Imm) (H : Heap) (w : World) (res : Result Next) (v : AV) (u : List (Nat × Ent)) : Prop :=
 ∃ (x : Value) (w' : World), (res = .ok (.value x) w' ∨ (res = .ok .skip w' ∧ x = undef)) ∧ ∃ (ρ' : Rho) (I' : Imm), Good ρ I H w ρ' I' (zm H u) w' ∧ Conc G.g ρ' I' (zm H u) w' ∧ Mono ρ I w ρ' I' w' ∧ rel ρ' I' w' v x
def Eff.pre (u0 : List (Nat × Ent)) : Eff → Eff
 | .one c v u => .one c v (u0 ++ u)
 | .br b x y => .br b (x.pre u0) (y.pre u0)
 | .ck b x => .ck b (x.pre u0)
 | .bad => .bad
theorem Eff.z1lo {u0 : List (Nat × Ent)} : ∀ {E : Eff} {v : AV} {u : List (Nat × Ent)}, (E.pre u0).has v u → ∃ u1, u = u0 ++ u1 ∧ E.has v u1
 | .one c v' u', v, u, ⟨h1, h2, h3⟩ => ⟨u', h3, h1, h2, rfl⟩
 | .br true x y, v, u, h => Eff.z1lo (E := x) h
 | .br false x y, v, u, h => Eff.z1lo (E := y) h
 | .ck b x, v, u, ⟨h1, h2⟩ => let ⟨u1, h3, h4⟩ := Eff.z1lo (E := x) h2; ⟨u1, h3, h1, h4⟩
theorem z1h : ∀ (u u' : List (Nat × Ent)) (H : Heap), zm H (u ++ u') = zm (zm H u) u'
 | [], _, _ => rfl
 | (i, e) :: r, u', H => by simp only [List.cons_append, zm, z1h r u']
theorem z9g {id : Nat} : ∀ (u : List (Nat × Ent)) {H1 H2 : Heap}, H1[id]? = H2[id]? → (zm H1 u)[id]? = (zm H2 u)[id]?
 | [], _, _, h => h
 | (i, e) :: r, H1, H2, h => by
  refine z9g r ?_;rw [List.getElem?_set, List.getElem?_set, h]
  by_cases hi : i = id
  ·subst hi;have : i < H1.length ↔ i < H2.length := by
    rw [← Decidable.not_iff_not, Nat.not_lt, Nat.not_lt, ← List.getElem?_eq_none_iff, ← List.getElem?_eq_none_iff, h]
   simp only [if_true, this]
  ·simp only [if_neg hi]
theorem Mono.trans' {ρ : Rho} {I : Imm} {w : World} {ρ1 : Rho} {I1 : Imm} {w1 : World} {ρ2 : Rho} {I2 : Imm} {w2 : World} (a : Mono ρ I w ρ1 I1 w1) (b : Mono ρ1 I1 w1 ρ2 I2 w2) : Mono ρ I w ρ2 I2 w2 :=
 ⟨fun i x h => b.ext i x (a.ext i x h), fun x o h => ⟨(b.imm x o (a.imm x o h).1).1, ((b.imm x o (a.imm x o h).1).2).trans (a.imm x o h).2⟩,
  fun x h => ⟨(b.sz x (a.sz x h).1).1, ((b.sz x (a.sz x h).1).2).trans (a.sz x h).2⟩⟩
theorem Mono.id (ρ : Rho) (I : Imm) (w : World) : Mono ρ I w ρ I w := ⟨fun _ _ h => h, fun _ _ h => ⟨h, rfl⟩, fun _ h => ⟨h, rfl⟩⟩
def z3d : Op → Nat
 | .alloc _ => 1
 | .box _ _ => 1
 | .buildSlice _ _ _ => 1
 | .makeSlice _ _ _ => 1
 | .convert _ d _ => match G.ty d with
  | some td => match td.kind with
   | .slice _ => 1
   | _ => 0
  | none => 0
 | .slice _ _ _ _ m => bif m.isSome then 1 else 0
 | .call c => match c.callee with
  | .value _ => z7c
  | .builtin .append => 1
  | _ => 0
 | _ => 0
structure ROps where
 f : Op → (Operand → AV) → Heap → Nat → Option Eff
 congr : ∀ (op : Op) (ev ev' : Operand → AV) (H H' : Heap) (nid : Nat), (∀ x ∈ op.operands, ev' x = ev x) → (∀ id ∈ z1u ev op nid (z3d G op), H'[id]? = H[id]?) → f op ev' H' nid = f op ev H nid
 sound : ∀ (ρ : Rho) (I : Imm) (H : Heap) (w : World), Conc G.g ρ I H w → ∀ (ev : Operand → AV) (e : Operand → Value), (∀ x, rel ρ I w (ev x) (e x)) → ∀ (o : Oper) (nid : Nat) (E : Eff) (v : AV) (u : List (Nat × Ent)),
  f o.op ev H nid = some E → E.has v u → EffOk G ρ I H w ((execOp e o).run P w) v u
 pre : Heap → List AV → Option (Bool × List AV × List (Nat × Ent)) := fun _ args => some (true, args, [])
 preC : ∀ (H H' : Heap) (args : List AV), (∀ a ∈ args, ∀ id ∈ z3v a, H'[id]? = H[id]?) → pre H' args = pre H args := by intros; rfl
 preR : ∀ (H : Heap) (args : List AV) (p : Bool) (args' : List AV) (u : List (Nat × Ent)), pre H args = some (p, args', u) → ∀ a ∈ args', ∀ id ∈ zcx a, ∃ b ∈ args, id ∈ z3v b := by
  intro H args p args' u h a ha id hid;simp only [Option.some.injEq, Prod.mk.injEq] at h;obtain ⟨_, rfl, _⟩ := h;exact ⟨a, ha, zui hid⟩
 preS : ∀ (ρ : Rho) (I : Imm) (H : Heap) (w : World), Conc G.g ρ I H w → ∀ (args args' : List AV) (u : List (Nat × Ent)), pre H args = some (true, args', u) →
   ∃ I', Good ρ I H w ρ I' (zm H u) w ∧ Conc G.g ρ I' (zm H u) w ∧ Mono ρ I w ρ I' w ∧ ∀ vs, RV ρ I w args vs → RV ρ I' w args' vs := by
  intro ρ I H w c args args' u h;simp only [Option.some.injEq, Prod.mk.injEq] at h;obtain ⟨_, rfl, rfl⟩ := h;exact ⟨I, Good.refl _ _ _ _, c, Mono.id _ _ _, fun _ r => r⟩
def z9m (H : Heap) : AV → Option (Bool × AV × Bool)
 | .sl id off k len => match H[id]? with
  | some (.grow k' rows _) => some ((k == k' && off == 0) && leB len rows.length, .vec false k (rows.take len), true)
  | _ => match z3q H (.sl id off k len) with
   | some (c, l) => some (c, .vec8 false l, true)
   | none => none
 | .slv _ k n f => some (true, .vecr false k n f, false)
 | a => some (true, a, false)
def zir (H : Heap) : List AV → Option (Bool × List AV × Bool)
 | [] => some (true, [], false)
 | a :: as => match z9m H a with
  | some (c, x, b) => match zir H as with
   | some (d, xs, b') => some (c && d, x :: xs, b || b')
   | none => none
  | none => none
def zim (b : Bool) (H : Heap) (nid : Nat) : Out → Eff
 | .ret v H0 => .ck (leB H0.length z7c && z5a H nid H0) (.ck (!b || (nvA v && H0.all nvE)) (.one true (z4x (shift nid) v) (z5o (shift nid) nid H0)))
 | .alt d x y => .br d (zim b H nid x) (zim b H nid y)
structure GCall (f : FuncId) (args : List AV) (v : AV) : Prop where
 pv : z1b v = true
 call : ∃ k n fr rest, args = .slv 0 k n fr :: rest ∧ zw rest = true ∧ ACall G f args [.tail k n] (fun v' _ => v' = v)
def z1gz (f : FuncId) (args : List AV) (out : Out) : Prop := HCall G f args out ∨ ∃ v a, out = .ret v [] ∧ args = [.tup [], .tup a] ∧ GCall G f a v
structure Ctr where
 C : FuncId → List AV → Option (Bool × Out)
 ok : ∀ f args pre out, C f args = some (pre, out) → pre = true → z1gz G f args out
def zkl (C : FuncId → List AV → Option (Bool × Out)) (f : FuncId) (args : List AV) (H : Heap) : Option Eff :=
 match args with
 | .slv id k n fr :: rest => match C f [.tup [], .tup (.slv 0 k n fr :: rest)] with
  | some (pre, .ret v []) => match H[id]? with
   | some (.tail k' n') => some (.ck (G.go f) (.ck ((k == k' && n == n') && (zw rest && z1b v)) (.ck pre (.one true v [(id, .dead)]))))
   | _ => none
  | _ => none
 | _ => none
def zno (C : FuncId → List AV → Option (Bool × Out)) (f : FuncId) (args : List AV) (H : Heap) (nid : Nat) : Option Eff :=
 match zir H args with
 | some (c, args', b) => match C f args' with
  | some (pre, out) => some (.ck (G.go f) (.ck (zw args') (.ck c (.ck pre (zim b H nid out)))))
  | none => none
 | none => none
def zhe (op : Op) (ev : Operand → AV) (H : Heap) (nid : Nat) : Option Eff :=
 match op with
 | .alloc t => match G.ty t with
  | some ti => match ti.zero with
   | some z => some (.one (known z && z34 H nid) (.ptr nid 0) [(nid, .blk z.cells [])])
   | none => none
  | none => none
 | .box _ x => some (.one (known (ev x) && z34 H nid) (.ptr nid 0) [(nid, .blk (ev x).cells [])])
 | .store t a x => match zda G (.store t a x) ev H with
  | some (c, id, e) => some (.one c (.tup []) [(id, e)])
  | none => none
 | _ => none
def eff (R : ROps G) (C : FuncId → List AV → Option (Bool × Out)) (op : Op) (ev : Operand → AV) (H : Heap) (nid : Nat) : Option Eff :=
 match z40 G op ev H with
 | some (c, v) => some (.one c v [])
 | none => match zhe G op ev H nid with
  | some E => some E
  | none => match R.f op ev H nid with
   | some E => some E
   | none => match z6f op ev with
    | some (f, args) => match zkl G C f args H with
     | some E => some E
     | none => match R.pre H args with
      | some (p, args1, u) => match zno G C f args1 (zm H u) nid with
       | some E => some (.ck p (E.pre u))
       | none => none
      | none => none
    | none => none
end
section
variable {P : Program} {G : Env P} {ρ : Rho} {I : Imm} {H : Heap} {w : World}
theorem znw {ev : Operand → AV} {H H' : Heap} {a : Operand} (hr : ∀ id ∈ z1p (ev a), H'[id]? = H[id]?) : (∀ ti, zea ti H' (ev a) = zea ti H (ev a)) ∧ z3q H' (ev a) = z3q H (ev a) ∧ z9m H' (ev a) = z9m H (ev a) := by
 cases h2 : ev a <;> rw [h2] at hr <;> simp only [z1p, List.mem_singleton, forall_eq, List.not_mem_nil, false_implies, implies_true] at hr <;> simp [zea, zg3, zdj, z4u, z3q, z9m, *]
theorem z9t {ev ev' : Operand → AV} {l : List Operand} (h : ∀ x ∈ l, ev' x = ev x) : l.map ev' = l.map ev := List.map_congr_left h
theorem z4h {ev : Operand → AV} {l : List Operand} {x : Operand} {id : Nat} (hx : x ∈ l) (h : id ∈ z1p (ev x)) : id ∈ zi6 ev l := List.mem_flatMap.2 ⟨x, hx, h⟩
theorem zxc {op : Op} {ev ev' : Operand → AV} {H H' : Heap} {nid : Nat} (he : ∀ x ∈ op.operands, ev' x = ev x)
  (hr : ∀ id ∈ z1u ev op nid (z3d G op), H'[id]? = H[id]?) : z40 G op ev' H' = z40 G op ev H := by
 cases op with
 | load t a =>
  have h1 := he a (by simp [Op.operands])
  simp only [z40, h1];have := (znw (H := H) (H' := H') (ev := ev) (a := a) hr).1;simp only [this]
 | convert t d x =>
  have h1 := he x (by simp [Op.operands])
  simp only [z40, h1];have h8 := (znw (H := H) (H' := H') (ev := ev) (a := x) fun id hid => hr id (by simp only [z1u, Op.operands]; exact List.mem_append_left _ (z4h (by simp) hid))).2.1
  have : ∀ ti td, zcz G ti td H' (ev x) = zcz G ti td H (ev x) := by
   intro ti td;simp only [zcz, h8]
  simp only [this]
 | call c =>
  have hargs : c.args.toList.map ev' = c.args.toList.map ev := z9t fun x hx => he x (by simp [Op.operands, Call.operands]; right; simpa using hx)
  simp only [z40, hargs]
  split
  ·rename_i fo hfo;have := he fo (by simp [Op.operands, Call.operands, hfo])
   rw [this]
  ·rfl
  ·rfl
  ·rfl
  ·rfl
 | makeFunc fn first caps =>
  have h1 : first.toList.map ev' = first.toList.map ev := z9t fun x hx => he x (by simp [Op.operands]; left; simpa using hx)
  have h2 : caps.toList.map ev' = caps.toList.map ev := z9t fun x hx => he x (by simp [Op.operands]; right; simpa using hx)
  simp only [z40, h1, h2]
 | build t parts =>
  have h1 : (parts.toList.map fun p => (p.1, ev' p.2)) = parts.toList.map fun p => (p.1, ev p.2) :=
   List.map_congr_left fun p hp => by rw [he p.2 (by simp [Op.operands]; exact ⟨p.1, by simpa using hp⟩)]
  simp only [z40, h1]
 | move x => simp only [z40, he x (by simp [Op.operands])]
 | assign x => simp only [z40, he x (by simp [Op.operands])]
 | pick c a b => simp only [z40, he c (by simp [Op.operands]), he a (by simp [Op.operands]), he b (by simp [Op.operands])]
 | extract t i => simp only [z40, he t (by simp [Op.operands])]
 | fieldAddr s x f => simp only [z40, he x (by simp [Op.operands])]
 | indexAddr t x i => simp only [z40, he x (by simp [Op.operands]), he i (by simp [Op.operands])]
 | index t x i => simp only [z40, he x (by simp [Op.operands]), he i (by simp [Op.operands])]
 | field t x f => simp only [z40, he x (by simp [Op.operands])]
 | binOp op t x y ty => simp only [z40, he x (by simp [Op.operands]), he y (by simp [Op.operands])]
 | unOp op t x => simp only [z40, he x (by simp [Op.operands])]
 | nilCheck x => simp only [z40, he x (by simp [Op.operands])]
 | _ => rfl
theorem zxo {op : Op} {ev ev' : Operand → AV} (he : ∀ x ∈ op.operands, ev' x = ev x) : z6f op ev' = z6f op ev := by
 cases op with
 | call c =>
  have hargs : c.args.toList.map ev' = c.args.toList.map ev := z9t fun x hx => he x (by simp [Op.operands, Call.operands]; right; simpa using hx)
  simp only [z6f, hargs]
  split
  ·rename_i fo hfo;have := he fo (by simp [Op.operands, Call.operands, hfo])
   rw [this]
  ·rfl
 | _ => rfl
theorem z14z {a : AV} {H H' : Heap} (hr : ∀ id ∈ zcx a, H'[id]? = H[id]?) : z9m H' a = z9m H a := by
 cases a <;> simp only [zcx, List.mem_singleton, forall_eq, List.not_mem_nil, false_implies, implies_true] at hr <;> simp [z9m, z3q, hr]
theorem znp {H H' : Heap} : ∀ {args : List AV}, (∀ a ∈ args, ∀ id ∈ zcx a, H'[id]? = H[id]?) → zir H' args = zir H args
 | [], _ => rfl
 | a :: as, h => by
  simp only [zir, z14z (h a (by simp)), znp (args := as) fun x hx => h x (by simp [hx])]
theorem zhw {H H' : Heap} : ∀ {H0 : Heap} {nid : Nat}, (∀ j, j < H0.length → H'[nid + j]? = H[nid + j]?) → z5a H' nid H0 = z5a H nid H0
 | [], _, _ => rfl
 | e :: r, nid, h => by
  have h0 : z34 H' nid = z34 H nid := by unfold z34; rw [show H'[nid]? = H[nid]? from h 0 (by simp)]
  have h1 : z5a H' (nid + 1) r = z5a H (nid + 1) r := zhw fun j hj => by
   have := h (j + 1) (by simpa using hj)
   rwa [show nid + (j + 1) = nid + 1 + j by omega] at this
  simp only [z5a, h0, h1]
theorem zgp {b : Bool} {H H' : Heap} {nid : Nat} (h : ∀ j, j < z7c → H'[nid + j]? = H[nid + j]?) : ∀ (out : Out), zim b H' nid out = zim b H nid out
 | .ret v H0 => by
  simp only [zim];cases hl : leB H0.length z7c
  ·simp
  ·rw [zhw fun j hj => h j (by have := zh.1 hl; omega)]
 | .alt d x y => by simp only [zim, zgp h x, zgp h y]
theorem zwu {C : FuncId → List AV → Option (Bool × Out)} {f : FuncId} {args : List AV} {H H' : Heap} {nid : Nat} (h1 : ∀ a ∈ args, ∀ id ∈ zcx a, H'[id]? = H[id]?) (h2 : ∀ j, j < z7c → H'[nid + j]? = H[nid + j]?) :
  zno G C f args H' nid = zno G C f args H nid := by
 simp only [zno, znp h1, zgp h2]
theorem zte {t : Nat} {a y : Operand} {ev ev' : Operand → AV} {H H' : Heap} (h1 : ev' a = ev a) (h2 : ev' y = ev y) (hr : ∀ id ∈ z1p (ev a), H'[id]? = H[id]?) :
  zda G (.store t a y) ev' H' = zda G (.store t a y) ev H := by
 simp only [zda, h1, h2];cases hq : ev a <;> rw [hq] at hr <;> simp only [z1p, List.mem_singleton, forall_eq, List.not_mem_nil, false_implies, implies_true] at hr <;> simp [hr]
theorem z12z {op : Op} {ev ev' : Operand → AV} {H H' : Heap} {nid : Nat} (he : ∀ x ∈ op.operands, ev' x = ev x)
  (hr : ∀ id ∈ z1u ev op nid (z3d G op), H'[id]? = H[id]?) : zhe G op ev' H' nid = zhe G op ev H nid := by
 cases op with
 | alloc t => simp only [zhe, z34, hr nid (by simp [z1u, z3d, upTo])]
 | box t x => simp only [zhe, he x (by simp [Op.operands]), z34, hr nid (by simp [z1u, z3d, upTo])]
 | store t a x => simp only [zhe, zte (G := G) (he a (by simp [Op.operands])) (he x (by simp [Op.operands])) hr]
 | _ => rfl
theorem zx7 {C : FuncId → List AV → Option (Bool × Out)} {f : FuncId} {args : List AV} {H H' : Heap} (h : ∀ a ∈ args, ∀ id ∈ z3v a, H'[id]? = H[id]?) : zkl G C f args H' = zkl G C f args H := by
 unfold zkl
 split
 ·rename_i id k n fr rest;rw [h _ (List.mem_cons_self ..) id (by simp [z3v])]
 ·rfl
theorem z174 {R : ROps G} {C : FuncId → List AV → Option (Bool × Out)} {op : Op} {ev ev' : Operand → AV} {H H' : Heap} {nid : Nat} (he : ∀ x ∈ op.operands, ev' x = ev x)
  (hr : ∀ id ∈ z1u ev op nid (z3d G op), H'[id]? = H[id]?) : eff G R C op ev' H' nid = eff G R C op ev H nid := by
 unfold eff;rw [zxc he hr, z12z he hr, R.congr op ev ev' H H' nid he hr, zxo he];cases z40 G op ev H with
 | some p => rfl
 | none => cases zhe G op ev H nid with
  | some p => rfl
  | none => cases R.f op ev H nid with
   | some p => rfl
   | none =>
    cases hc : z6f op ev with
    | none => rfl
    | some p =>
     obtain ⟨f, args⟩ := p;simp only;cases op with
     | call c =>
      have hd : ∀ a ∈ args, ∀ id ∈ z3v a, H'[id]? = H[id]? := by
       intro a ha id hid;simp only [z6f] at hc
       split at hc
       ·rename_i fo hfo
        split at hc
        ·rename_i f' first caps hfo';simp only [Option.some.injEq, Prod.mk.injEq] at hc;obtain ⟨_, rfl⟩ := hc;have hm : ∀ x ∈ c.args.toList, id ∈ z1p (ev x) → H'[id]? = H[id]? := fun x hx h => hr id (by
          simp only [z1u];exact List.mem_append_left _ (z4h (by simp [Op.operands, Call.operands]; right; simpa using hx) h))
         have hf : id ∈ z1p (ev fo) → H'[id]? = H[id]? := fun h => hr id (by
          simp only [z1u];exact List.mem_append_left _ (z4h (by simp [Op.operands, Call.operands, hfo]) h))
         rw [hfo'] at hf;simp only [z1p, List.mem_append, List.mem_flatMap] at hf;rcases List.mem_append.1 ha with h | h
         ·exact hf (.inl ⟨a, h, hid⟩)
         ·rcases List.mem_append.1 h with h | h
          ·obtain ⟨x, hx, rfl⟩ := List.mem_map.1 h;exact hm x hx (zu2 hid)
          ·exact hf (.inr ⟨a, h, hid⟩)
        ·simp at hc
       ·simp at hc
      rw [zx7 hd, R.preC H H' args hd];cases zkl G C f args H with
      | some E => rfl
      | none =>
      simp only
      split
      case h_2 => rfl
      rename_i p args1 u hpre;rw [zwu (args := args1) (H := zm H u) (H' := zm H' u) (fun a ha id hid => by
       obtain ⟨b, hb, hid'⟩ := R.preR _ _ _ _ _ hpre a ha id hid;exact z9g u (hd b hb id hid')) (fun j hj => z9g u ?_)]
      ·refine hr _ ?_;simp only [z1u];refine List.mem_append_right _ ?_;simp only [z6f] at hc
       split at hc
       ·rename_i fo hfo;simp only [z3d, hfo];simp only [z7c] at hj;simp only [z7c, upTo, List.mem_cons, List.not_mem_nil, or_false];omega
       ·simp at hc
     | _ => simp [z6f] at hc
end
end
noncomputable section
section
variable {P : Program} {G : Env P} {ρ : Rho} {I : Imm} {H : Heap} {w : World}
theorem zat {k : Nat} : ∀ {rows : List AV} {vs : List Value} (n : Nat), (∀ a ∈ rows, szA a = k) → RL ρ I w rows vs → RL ρ I w (rows.take n) (vs.take (n * k))
 | _, _, 0, _, _ => by simp [RL]
 | [], _, n + 1, _, h => by cases h; simp [RL]
 | a :: as, _, n + 1, hk, ⟨ys, zs, h0, h1, h2⟩ => by
  subst h0;have hl := z3o a ys h1;rw [hk a (by simp)] at hl
  rw [List.take_succ_cons];refine ⟨ys, zs.take (n * k), ?_, h1, zat n (fun b hb => hk b (by simp [hb])) h2⟩
  rw [Nat.add_mul, Nat.one_mul, Nat.add_comm, List.take_append, hl];rw [List.take_of_length_le (by omega), Nat.add_sub_cancel_left]
def zc9 (b : Bool) (I : Imm) (w : World) : Imm := fun x o => if b then x < w.heap.size else I x o
theorem zcu (c : Conc G.g ρ I H w) (b : Bool) : (∀ x o, I x o → zc9 b I w x o) ∧ (∀ x o, zc9 b I w x o → x < w.heap.size) := by
 refine ⟨fun x o h => ?_, fun x o h => ?_⟩ <;> unfold zc9 at *
 ·split
  ·exact (c.imm x o h).1
  ·exact h
 ·split at h
  ·exact h
  ·exact (c.imm x o h).1
theorem zqr (c : Conc G.g ρ I H w) {b d : Bool} (hbd : b = true → d = true) : Mono ρ (zc9 b I w) w ρ (zc9 d I w) w :=
 ⟨fun _ _ h => h, fun x o h => ⟨by
  cases d
  ·have : b = false := by cases b <;> simp_all
   rw [this] at h; exact h
  ·exact (zcu c b).2 x o h, rfl⟩, fun _ h => ⟨h, rfl⟩⟩
theorem zx3 (c : Conc G.g ρ I H w) {a x : AV} {p b : Bool} {v : Value} (h : z9m H a = some (p, x, b)) (hp : p = true) (r : rel ρ I w a v) : rel ρ (zc9 b I w) w x v := by
 cases a with
 | sl id off k len =>
  simp only [z9m] at h;have rs := z2j.1 r
  split at h
  ·rename_i k' rows f he;simp only [Option.some.injEq, Prod.mk.injEq] at h;obtain ⟨rfl, rfl, rfl⟩ := h;simp only [Bool.and_eq_true, beq_iff_eq] at hp;obtain ⟨⟨rfl, rfl⟩, hle⟩ := hp;have hle := zh.1 hle;obtain ⟨hev, hg⟩ := c.grow id _ he rfl;have hev' : ∀ a ∈ rows, szA a = k := hev;refine z2h.2 ⟨fun a ha => hev' a (List.mem_of_mem_take ha), ?_⟩
   rcases rs with ⟨bl, cap, h1, rfl, h3, h4, h5⟩ | ⟨rfl, a, rfl⟩
   ·rcases hg with ⟨g1, _⟩ | ⟨b', el, fr, us, rest, g1, g2, g3, g4⟩
    ·rw [g1] at h1; simp at h1
    ·rw [g1] at h1;simp only [Option.some.injEq] at h1;subst h1;refine ⟨us.take (len * k), z15 (ρ := ρ) (I := I) (w := w) ⟨fun _ _ h => h, fun x o h => ⟨(zcu c true).1 x o h, rfl⟩, fun _ h => ⟨h, rfl⟩⟩ _ _ (zat len hev' g3), some ⟨b', 0, none⟩, cap, ?_, ?_, by simp, .inr ⟨b', 0, rfl, h4, ?_⟩⟩
     ·rw [List.length_take, Nat.min_eq_left hle]
     ·rw [List.length_take, Nat.min_eq_left hle]; exact h3
     ·intro i y hy;refine ⟨?_, by simp only [zc9, if_true]; exact h4⟩
      rw [Nat.zero_add, cell_of_heap g2];have hi := (List.getElem?_eq_some_iff.1 hy).1;rw [List.getElem?_take] at hy
      split at hy
      ·rw [List.getElem?_append_left (List.getElem?_eq_some_iff.1 hy).1]; exact hy
      ·simp at hy
   ·exact ⟨[], by simp [RL], a, 0, by simp, by simp, by simp, .inl (by simp)⟩
  ·split at h
   ·rename_i c' l hc;simp only [Option.some.injEq, Prod.mk.injEq] at h;obtain ⟨rfl, rfl, rfl⟩ := h;obtain ⟨y, cap, rfl, hcs⟩ := z65 c hc hp r;rw [z22];have hcap : l.length ≤ cap := by
     rcases rs with ⟨bl, cap', h1, h2, h3, h4, h5⟩ | ⟨h1, a, h2⟩
     ·simp only [Value.slice.injEq] at h2; omega
     ·simp only [Value.slice.injEq] at h2; omega
    refine ⟨y, cap, rfl, hcap, by simp, ?_⟩
    rcases hcs with rfl | ⟨b', off', rfl, hcell⟩
    ·exact .inl rfl
    ·rcases Nat.eq_zero_or_pos l.length with hz | hz
     ·exact .inl hz
     ·have hb : b' < w.heap.size := by
       have := hcell 0 _ (zmw hz);unfold World.cell? at this
       split at this
       ·rename_i hq; exact (Array.getElem?_eq_some_iff.1 hq).1
       ·simp at this
      exact .inr ⟨b', off', rfl, hb, fun i y hy => ⟨hcell i y hy, by simp only [zc9, if_true]; exact hb⟩⟩
   ·simp at h
 | slv id k n f =>
  simp only [z9m, Option.some.injEq, Prod.mk.injEq] at h;obtain ⟨_, rfl, rfl⟩ := h;exact z8o (ρ := ρ) (I := I) (w := w) ⟨fun _ _ h => h, fun x o h => ⟨(zcu c false).1 x o h, rfl⟩, fun _ h => ⟨h, rfl⟩⟩ (z2r.1 r).1
 | _ =>
  simp only [z9m, Option.some.injEq, Prod.mk.injEq] at h;obtain ⟨_, rfl, rfl⟩ := h;exact z8o (ρ := ρ) (I := I) (w := w) ⟨fun _ _ h => h, fun x o h => ⟨(zcu c false).1 x o h, rfl⟩, fun _ h => ⟨h, rfl⟩⟩ r
theorem zmx (c : Conc G.g ρ I H w) : ∀ {args xs : List AV} {p b : Bool} {vs : List Value}, zir H args = some (p, xs, b) → p = true → RV ρ I w args vs → RV ρ (zc9 b I w) w xs vs
 | [], xs, p, b, vs, h, _, r => by
  simp only [zir, Option.some.injEq, Prod.mk.injEq] at h;obtain ⟨_, rfl, _⟩ := h;exact r
 | a :: as, xs, p, b, vs, h, hp, r => by
  simp only [zir] at h
  split at h
  ·rename_i c1 x b1 h1
   split at h
   ·rename_i d ys b2 h2;simp only [Option.some.injEq, Prod.mk.injEq] at h;obtain ⟨rfl, rfl, rfl⟩ := h;simp only [Bool.and_eq_true] at hp;obtain ⟨y, zs, rfl, k1, k2⟩ := zr.1 r;refine zr.2 ⟨y, zs, rfl, ?_, ?_⟩
    ·exact z8o (zqr c (by intro h; simp [h])) (zx3 c h1 hp.1 k1)
    ·exact z7v (zqr c (by intro h; simp [h])) _ _ (zmx c h2 hp.2 k2)
   ·simp at h
  ·simp at h
theorem zlu {b : Bool} {H : Heap} {nid : Nat} : ∀ {out : Out} {v : AV} {u : List (Nat × Ent)}, (zim b H nid out).has v u →
  ∃ v0 H0, out.has v0 H0 ∧ v = z4x (shift nid) v0 ∧ u = z5o (shift nid) nid H0 ∧ z5a H nid H0 = true ∧ (b = true → nvA v0 = true ∧ H0.all nvE = true)
 | .ret v0 H0, v, u, h => by
  obtain ⟨h1, h3, _, h4, h5⟩ := h;simp only [Bool.and_eq_true, Bool.or_eq_true, Bool.not_eq_true'] at h1 h3;exact ⟨v0, H0, ⟨rfl, rfl⟩, h4, h5, h1.2, fun hb => h3.resolve_left (by simp [hb])⟩
 | .alt true x y, v, u, h => zlu (out := x) h
 | .alt false x y, v, u, h => zlu (out := y) h
theorem Out.z1ls : ∀ {out : Out} {v v' : AV} {H H' : Heap}, out.has v H → out.has v' H' → v' = v ∧ H' = H
 | .ret v0 H0, _, _, _, _, ⟨h1, h2⟩, ⟨h3, h4⟩ => ⟨h3.trans h1.symm, h4.trans h2.symm⟩
 | .alt true x y, _, _, _, _, h, h' => Out.z1ls (out := x) h h'
 | .alt false x y, _, _, _, _, h, h' => Out.z1ls (out := y) h h'
theorem z101 (c : Conc G.g ρ I H w) {ev : Operand → AV} {e : Operand → Value} (r : ∀ x, rel ρ I w (ev x) (e x)) {o : Oper} {nid : Nat} {E : Eff} {v : AV} {u : List (Nat × Ent)}
  (h : zhe G o.op ev H nid = some E) (hh : E.has v u) : EffOk G ρ I H w ((execOp e o).run P w) v u := by
 unfold zhe at h
 split at h
 ·rename_i t hop
  split at h
  ·rename_i ti hti
   split at h
   ·rename_i z hz;simp only [Option.some.injEq] at h;subst h;obtain ⟨hc, rfl, rfl⟩ := hh;simp only [Bool.and_eq_true, ze2] at hc;obtain ⟨j, d, h1, h2, h3, _, h5, h6, _⟩ := z1a hti;obtain ⟨zv, hzv, hck⟩ := h6 z hz;have hrun : (execOp e o).run P w = .ok (.value (.pointer (some ⟨w.heap.size, 0, none⟩))) (w.alloc (.cells zv.cells t)) := by
     simp [execOp, hop, Instr.alloc, zeroValue, run_typeInfo h1, hzv, newVar, newRow]
    have hr := zab (z5l (z9j hck ρ I w) hc.1);obtain ⟨g1, g2, g3⟩ := zdd (w' := w.alloc (.cells zv.cells t)) c hc.2 (.blk z.cells []) (some w.heap.size) (fun b hb => by simp at hb; subst hb; simp) (by simp) (fun b hb => alloc_old w _ hb) rfl
     (fun cs f he => by
      simp only [Ent.blk.injEq] at he;obtain ⟨rfl, rfl⟩ := he;exact ⟨_, t, (0, 0), zv.cells.toList, rfl, by simpa using z69 w _, hr, Nat.le_refl _, fun o _ => by simp⟩) (fun h => by simp [Ent.grows] at h) rfl rfl rfl
    exact ⟨_, _, .inl hrun, _, _, g1, g2, g3, z4a.2 ⟨w.heap.size, by simp [z1e], rfl⟩⟩
   ·simp at h
  ·simp at h
 ·rename_i t x hop;simp only [Option.some.injEq] at h;subst h;obtain ⟨hc, rfl, rfl⟩ := hh;simp only [Bool.and_eq_true, ze2] at hc;have hrun : (execOp e o).run P w = .ok (.value (.pointer (some ⟨w.heap.size, 0, none⟩))) (w.alloc (.cells (e x).cells t)) := by
   simp [execOp, hop, Instr.box, newVar, newRow]
  have hr := zab (z5l (r x) hc.1);obtain ⟨g1, g2, g3⟩ := zdd (w' := w.alloc (.cells (e x).cells t)) c hc.2 (.blk (ev x).cells []) (some w.heap.size) (fun b hb => by simp at hb; subst hb; simp) (by simp) (fun b hb => alloc_old w _ hb) rfl
   (fun cs f he => by
    simp only [Ent.blk.injEq] at he;obtain ⟨rfl, rfl⟩ := he;exact ⟨_, t, (0, 0), (e x).cells.toList, rfl, by simpa using z69 w _, hr, Nat.le_refl _, fun o _ => by simp⟩) (fun h => by simp [Ent.grows] at h) rfl rfl rfl
  exact ⟨_, _, .inl hrun, _, _, g1, g2, g3, z4a.2 ⟨w.heap.size, by simp [z1e], rfl⟩⟩
 ·rename_i t a x hop
  split at h
  ·rename_i b id e1 hs;simp only [Option.some.injEq] at h;subst h;obtain ⟨hc, rfl, rfl⟩ := hh;obtain ⟨w', h1, h2, h3, h4⟩ := zl3 c r hop hs hc;exact ⟨undef, w', .inr ⟨h1, rfl⟩, ρ, I, h2, h3, h4, z8z⟩
  ·simp at h
 ·simp at h
def After (G : Env P) (ρ : Rho) (I : Imm) (H : Heap) (w : World) (a : Act) (o : Oper) (v : AV) (u : List (Nat × Ent)) (next : Act → World → Prop) : Prop :=
 ∀ (ρ' : Rho) (I' : Imm) (x : Value) (w' : World), Good ρ I H w ρ' I' (zm H u) w' → Conc G.g ρ' I' (zm H u) w' → Mono ρ I w ρ' I' w' → rel ρ' I' w' v x → next (a.put o.dst x) w'
theorem EffOk.upon {v : AV} {u : List (Nat × Ent)} {o : Oper} {a : Act} {next : Act → World → Prop} {Q : Exit → Act → World → Prop} {res : Result Next} (h : EffOk G ρ I H w res v u) (hn : After G ρ I H w a o v u next) : o.upon P a next Q res := by
 obtain ⟨x, w', hres, ρ', I', h1, h2, h3, h4⟩ := h;rcases hres with rfl | ⟨rfl, rfl⟩
 ·exact hn ρ' I' x w' h1 h2 h3 h4
 ·exact hn ρ' I' undef w' h1 h2 h3 h4
theorem GCall.frame {f : FuncId} {v : AV} {id k n : Nat} {fr : Nat → List AV} {rest : List AV} (h : GCall G f (.slv 0 k n fr :: rest) v) (c : Conc G.g ρ I H w) (hid : H[id]? = some (.tail k n)) {vs : List Value} (r : RV ρ I w (.slv id k n fr :: rest) vs) :
  Calls P f vs.toArray w fun e w' => ∃ x, e = .returned x ∧ ∃ (ρ' : Rho) (I' : Imm), Good ρ I H w ρ' I' (zm H [(id, .dead)]) w' ∧ Conc G.g ρ' I' (zm H [(id, .dead)]) w' ∧ Mono ρ I w ρ' I' w' ∧ rel ρ' I' w' v x := by
 obtain ⟨hpv, k', n', fr', rest', hargs, hrest, hcall⟩ := h;simp only [List.cons.injEq, AV.slv.injEq, true_and] at hargs;obtain ⟨⟨rfl, rfl, rfl⟩, rfl⟩ := hargs
 let ρ0 : Rho := fun j => if j = 0 then ρ id else none
 have mut0 : ∀ b o, Mut ρ0 [.tail k n] b o → Mut ρ H b o := by
  rintro b o ⟨i, e, h1, h2, h3, h4⟩;cases i with
  | zero =>
   simp only [List.getElem?_cons_zero, Option.some.injEq] at h1;subst h1;exact ⟨id, _, hid, h2, h3, h4⟩
  | succ i => simp at h1
 have gone : ∀ i e, (zm H [(id, .dead)])[i]? = some e → (i = id ∧ e = .dead) ∨ (i ≠ id ∧ H[i]? = some e) := by
  intro i e h1;simp only [zm] at h1;rw [List.getElem?_set] at h1
  by_cases hi : id = i
  ·subst hi;rw [if_pos rfl] at h1
   split at h1
   ·simp only [Option.some.injEq] at h1; exact .inl ⟨rfl, h1.symm⟩
   ·simp at h1
  ·rw [if_neg hi] at h1; exact .inr ⟨fun e => hi e.symm, h1⟩
 have c0 : Conc G.g ρ0 I [.tail k n] w := by
  refine ⟨?_, ?_, ?_, ?_, ?_, ?_, ?_, c.glob⟩
  ·intro j hj
   by_cases h : j = 0
   ·subst h; simp
   ·exact absurd (if_neg h) hj
  ·intro j hj;cases j <;> simp at hj
  ·intro j b hj
   by_cases h : j = 0
   ·subst h; exact c.blt id b hj
   ·rw [show ρ0 j = none from if_neg h] at hj; simp at hj
  ·intro i j b e e' h1 _ h2 _ _ _;cases i with
   | zero => cases j with
    | zero => rfl
    | succ j => simp at h2
   | succ i => simp at h1
  ·intro j cs f hj;cases j <;> simp at hj
  ·intro j e hj hg;cases j with
   | zero =>
    simp only [List.getElem?_cons_zero, Option.some.injEq] at hj;subst hj;obtain ⟨q, hq⟩ := c.grow id _ hid hg;refine ⟨q, ?_⟩;rcases hq with hq | ⟨b, el, f', us, rs, q1, q2, q3, q4⟩
    ·exact .inl hq
    ·exact .inr ⟨b, el, f', us, rs, q1, q2, z3k (n := 0) (fun _ h => by omega) _ _ rfl q3, q4⟩
   | succ j => simp at hj
  ·exact fun b o hb => ⟨(c.imm b o hb).1, fun hm => (c.imm b o hb).2 (mut0 b o hm)⟩
 have r0 : RV ρ0 I w (.slv 0 k n fr :: rest) vs := by
  obtain ⟨x, xs, rfl, k1, k2⟩ := zr.1 r;refine zr.2 ⟨x, xs, rfl, ?_, zza hrest k2⟩;obtain ⟨j1, j2⟩ := z2r.1 k1;exact z2r.2 ⟨z7i rfl j1, j2⟩
 refine (hcall ρ0 I w vs c0 r0).mono ?_;rintro e w' ⟨x, rfl, ρ1, I1, v1, H1, g, c', hr, rfl⟩;have hblk : ∀ i e b, H[i]? = some e → e.live = true → i ≠ id → ρ i = some (some b) → w'.heap[b]? = w.heap[b]? := by
  intro i e b h1 h2 h3 h4;refine g.block b (c.blt i b h4) ?_;rintro o ⟨j, e', q1, q2, q3, _⟩;cases j with
  | zero => exact h3 (c.inj i id b e _ h1 h2 hid rfl h4 q3)
  | succ j => simp at q1
 have gd : Good ρ I H w ρ I1 (zm H [(id, .dead)]) w' := by
  refine ⟨fun _ _ h => h, ?_, by rw [z79]; exact Nat.le_refl _, g.imm, ?_, g.os, g.tape, g.out, g.size, ?_, ?_, g.bs, ?_, ?_⟩
  ·rintro i y _ ⟨e, h1, h2⟩;rcases gone i e h1 with ⟨_, rfl⟩ | ⟨_, h⟩
   ·simp [Ent.grows] at h2
   ·exact ⟨e, h, h2⟩
  ·intro b o hb h;rcases g.imm' b o hb h with h | h
   ·exact .inl h
   ·exact .inr (mut0 b o h)
  ·exact fun b o hb h => g.cell b o hb fun hm => h (mut0 b o hm)
  ·exact fun b hb h => g.block b hb fun o hm => h o (mut0 b o hm)
  ·rintro b o _ ⟨i, e, h1, h2, h3, h4⟩;rcases gone i e h1 with ⟨_, rfl⟩ | ⟨_, h⟩
   ·simp [Ent.live] at h2
   ·exact ⟨i, e, h, h2, h3, h4⟩
  ·rintro b _ ⟨i, e, h1, h2, h3⟩;rcases gone i e h1 with ⟨_, rfl⟩ | ⟨_, h⟩
   ·simp [Ent.live] at h2
   ·exact ⟨i, e, h, h2, h3⟩
 have m : Mono ρ I w ρ I1 w' := c.mono gd fun _ _ h => h
 refine ⟨x, rfl, ρ, I1, gd, ⟨?_, ?_, ?_, ?_, ?_, ?_, ?_, ?_⟩, m, z7i hpv hr⟩
 ·intro i hi;rw [z79]; exact c.dom i hi
 ·intro i h1;rcases gone i _ h1 with ⟨_, h⟩ | ⟨_, h⟩
  ·simp at h
  ·exact c.res i h
 ·exact fun i b hb => Nat.lt_of_lt_of_le (c.blt i b hb) g.size
 ·intro i j b e e' h1 l1 h2 l2 hb hb';rcases gone i e h1 with ⟨_, rfl⟩ | ⟨_, q1⟩
  ·simp [Ent.live] at l1
  ·rcases gone j e' h2 with ⟨_, rfl⟩ | ⟨_, q2⟩
   ·simp [Ent.live] at l2
   ·exact c.inj i j b e e' q1 l1 q2 l2 hb hb'
 ·intro i cs f' h1;rcases gone i _ h1 with ⟨_, h⟩ | ⟨hne, q⟩
  ·simp at h
  ·obtain ⟨b, el, fr', us, q1, q2, q3, q4⟩ := c.blk i cs f' q;exact ⟨b, el, fr', us, q1, by rw [hblk i _ b q rfl hne q1]; exact q2, z15 m _ _ q3, q4⟩
 ·intro i e h1 hg;rcases gone i _ h1 with ⟨_, rfl⟩ | ⟨hne, q⟩
  ·simp [Ent.grows] at hg
  ·obtain ⟨ev, hq⟩ := c.grow i e q hg;refine ⟨ev, ?_⟩;rcases hq with hq | ⟨b, el, f', us, rs, q1, q2, q3, q4⟩
   ·exact .inl hq
   ·exact .inr ⟨b, el, f', us, rs, q1, by rw [hblk i e b q (by cases e <;> simp_all [Ent.grows, Ent.live]) hne q1]; exact q2, z15 m _ _ q3, q4⟩
 ·intro b o hb;refine ⟨(c'.imm b o hb).1, ?_⟩;rintro ⟨i, e, h1, h2, h3, h4⟩;rcases gone i _ h1 with ⟨_, rfl⟩ | ⟨hne, q⟩
  ·simp [Ent.live] at h2
  ·rcases g.imm' b o (c.blt i b h3) hb with h | ⟨j, e', q1, q2, q3, _⟩
   ·exact (c.imm b o h).2 ⟨i, e, q, h2, h3, h4⟩
   ·cases j with
    | zero => exact hne (c.inj i id b e _ q h2 hid rfl h3 q3)
    | succ j => simp at q1
 ·intro a cs ha;obtain ⟨us, k1, k2⟩ := c.glob a cs ha;exact ⟨us, z4q m k1, k2.mono m.imm⟩
theorem zqg (R : ROps G) (T : Ctr G) (c : Conc G.g ρ I H w) {t : List AV} {a : Act} (r : RelT ρ I w t a) {o : Oper} {nid : Nat} {E : Eff} {v : AV} {u : List (Nat × Ent)}
  (h : eff G R T.C o.op (evA G t) H nid = some E) (hh : E.has v u) {next : Act → World → Prop} {Q : Exit → Act → World → Prop} (hn : After G ρ I H w a o v u next) : o.wp P a w next Q := by
 have re := zfv c r;unfold eff at h;unfold Oper.wp
 split at h
 ·rename_i b v' hv;simp only [Option.some.injEq] at h;subst h;obtain ⟨hc, rfl, rfl⟩ := hh;obtain ⟨x, h1, h2⟩ := zl0 c re hv hc;exact EffOk.upon ⟨x, w, .inl h1, ρ, I, Good.refl _ _ _ _, c, ⟨fun _ _ h => h, fun _ _ h => ⟨h, rfl⟩, fun _ h => ⟨h, rfl⟩⟩, h2⟩ hn
 ·split at h
  ·rename_i E' hv;simp only [Option.some.injEq] at h;subst h;exact EffOk.upon (z101 c re hv hh) hn
  ·split at h
   ·rename_i E' hv;simp only [Option.some.injEq] at h;subst h;exact EffOk.upon (R.sound ρ I H w c _ _ re o nid E' v u hv hh) hn
   ·split at h
    ·rename_i f args0 hcall
     split at h
     ·rename_i E' hg;simp only [Option.some.injEq] at h;subst h;unfold zkl at hg
      split at hg
      ·rename_i id k n fr rest
       split at hg
       ·rename_i pre v0 hC
        split at hg
        ·rename_i k' n' hid;simp only [Option.some.injEq] at hg;subst hg;obtain ⟨hgo, hb, hpre, _, rfl, rfl⟩ := hh;simp only [Bool.and_eq_true, beq_iff_eq] at hb;obtain ⟨⟨rfl, rfl⟩, hpr, hpv⟩ := hb;obtain ⟨vs, h1, h2⟩ := zbe re hcall (G.goOk f hgo);rw [h1];rcases T.ok f _ pre _ hC hpre with hc | ⟨v1, a1, hv1, ha1, hc⟩
         ·have := hc.pa;simp [zw, z1b] at this
         ·simp only [Out.ret.injEq, and_true] at hv1;subst hv1;simp only [List.cons.injEq, AV.tup.injEq, true_and, and_true] at ha1;subst ha1;have := hc.frame c hid h2;rw [Array.toArray_toList] at this;refine Calls.mono this ?_;rintro e w' ⟨x, rfl, ρ', I', k2, k3, k4, k5⟩;exact hn ρ' I' x w' k2 k3 k4 k5
        ·simp at hg
       ·simp at hg
      ·simp at hg
     rename_i hnog;clear hnog
     split at h
     case h_2 => cases h
     rename_i p args u0 hpr
     split at h
     case h_2 => cases h
     rename_i E0 h0;simp only [Option.some.injEq] at h;subst h;obtain ⟨hp0, hh⟩ := hh;subst hp0;obtain ⟨u1, rfl, hh1⟩ := Eff.z1lo hh;obtain ⟨I1, d1, d2, d3, d4⟩ := R.preS ρ I H w c args0 args u0 hpr;have h := h0;unfold zno at h
     split at h
     ·rename_i c1 args' b hl
      split at h
      ·rename_i pre out hC;simp only [Option.some.injEq] at h;subst h;obtain ⟨hgo, hpure, hc1, hpre, hh2⟩ := hh1;obtain ⟨v0, H0, ho, rfl, rfl, hs, hnv⟩ := zlu hh2;obtain ⟨vs, h1, h2⟩ := zbe re hcall (G.goOk f hgo);rw [h1];have h2 := d4 _ h2;have hcal : HCall G f args' out := by
        rcases T.ok f args' pre out hC hpre with hc | ⟨_, _, _, rfl, hc⟩
        ·exact hc
        ·obtain ⟨_, _, _, _, _, rfl, _⟩ := hc;simp [zw, z1b] at hpure
       obtain ⟨i1, i2⟩ := zcu d2 b;have := hcal.frame d2 i1 i2 (by
        cases b
        ·exact .inl fun x o h => h
        ·exact .inr fun v1 H1 h1 => by
          obtain ⟨rfl, rfl⟩ := Out.z1ls ho h1;exact hnv rfl) nid (fun v1 H1 h1 => by
          obtain ⟨rfl, rfl⟩ := Out.z1ls ho h1;exact hs) (zmx d2 hl hc1 h2)
       rw [Array.toArray_toList] at this;refine Calls.mono this ?_;rintro e w' ⟨x, rfl, v1, H1, ρ', I', k1, k2, k3, k4, k5⟩;obtain ⟨rfl, rfl⟩ := Out.z1ls ho k1;exact hn ρ' I' x w' (by rw [z1h]; exact d1.trans k2) (by rw [z1h]; exact k3) (d3.trans' k4) k5
      ·simp at h
     ·simp at h
    ·simp at h
end
end
noncomputable section
def zcn : Oper → St → Prop := (zf fun _ _ => False).val
theorem zcb {o : Oper} {s : St} (h : zcn o s) : False := by
 rw [zcn, (zf fun (_ : Oper) (_ : St) => False).property] at h; exact h
def zko : Nat → AV → Prop := (zf fun _ _ => False).val
theorem zn2 {n : Nat} {v : AV} (h : zko n v) : False := by
 rw [zko, (zf fun (_ : Nat) (_ : AV) => False).property] at h; exact h
structure DEff where
 dst : Option Tmp
 val : AV
 upd : List (Nat × Ent)
 reads : List Nat
def z2z (e : DEff) (s : St) : St := ⟨z4n s.t e.dst e.val, zm s.H e.upd⟩
def zmc (H : Heap) : Nat → Heap
 | 0 => H
 | n + 1 => H ++ List.replicate (n + 1) .res
def trim : Nat → Heap → Heap
 | 0, H => H
 | k + 1, H => match H.getLast? with
  | some .res => trim k H.dropLast
  | _ => H
def fA (a : AV) : (AV → Prop) → Prop := AV.rec (motive_1 := fun _ => (AV → Prop) → Prop) (motive_2 := fun _ => (List AV → Prop) → Prop) (fun k => k (.any)) (fun v  k => k (.raw v)) (fun q n  k => k (.int q n)) (fun x  k => k (.u8 x)) (fun x  k => k (.u32 x)) (fun x  k => k (.u64 x)) (fun b  k => k (.bool b)) (fun s  k => k (.str s)) (fun n l  k => k (.b8 n l)) (fun n l  k => k (.w32 n l)) (fun n l  k => k (.w64 n l)) (fun n l  k => k (.n64 n l)) (fun i o  k => k (.ptr i o)) (fun i o n x  k => k (.pix i o n x)) (fun i o n l  k => k (.sl i o n l)) (fun f l  k => k (.vec8 f l)) (fun f n r _ k => k (.vec f n r)) (fun f n m r _ k => k (.vecr f n m r)) (fun i n m r _ k => k (.slv i n m r)) (fun c i _ k => k (.vp c i)) (fun c o n i _ k => k (.vpx c o n i)) (fun f a b iha ihb k => iha fun a' => ihb fun b' => k (.fn f a' b')) (fun l ih k => ih fun l' => k (.agg l')) (fun l ih k => ih fun l' => k (.tup l')) (fun k => k []) (fun _ _ iha ihl k => iha fun a' => ihl fun as' => k (a' :: as')) a
def fL (l : List AV) : (List AV → Prop) → Prop := AV.rec_1 (motive_1 := fun _ => (AV → Prop) → Prop) (motive_2 := fun _ => (List AV → Prop) → Prop) (fun k => k (.any)) (fun v  k => k (.raw v)) (fun q n  k => k (.int q n)) (fun x  k => k (.u8 x)) (fun x  k => k (.u32 x)) (fun x  k => k (.u64 x)) (fun b  k => k (.bool b)) (fun s  k => k (.str s)) (fun n l  k => k (.b8 n l)) (fun n l  k => k (.w32 n l)) (fun n l  k => k (.w64 n l)) (fun n l  k => k (.n64 n l)) (fun i o  k => k (.ptr i o)) (fun i o n x  k => k (.pix i o n x)) (fun i o n l  k => k (.sl i o n l)) (fun f l  k => k (.vec8 f l)) (fun f n r _ k => k (.vec f n r)) (fun f n m r _ k => k (.vecr f n m r)) (fun i n m r _ k => k (.slv i n m r)) (fun c i _ k => k (.vp c i)) (fun c o n i _ k => k (.vpx c o n i)) (fun f a b iha ihb k => iha fun a' => ihb fun b' => k (.fn f a' b')) (fun l ih k => ih fun l' => k (.agg l')) (fun l ih k => ih fun l' => k (.tup l')) (fun k => k []) (fun _ _ iha ihl k => iha fun a' => ihl fun as' => k (a' :: as')) l
mutual
theorem z137 : ∀ (a : AV) (k : AV → Prop), fA a k = k a
 | .agg l, k => z9p l fun l' => k (.agg l')
 | .tup l, k => z9p l fun l' => k (.tup l')
 | .fn f a b, k => (z9p a fun a' => fL b fun b' => k (.fn f a' b')).trans (z9p b fun b' => k (.fn f a b'))
 | .any, k => rfl
 | .raw _, k => rfl
 | .int _ _, k => rfl
 | .u8 _, k => rfl
 | .u32 _, k => rfl
 | .u64 _, k => rfl
 | .bool _, k => rfl
 | .str _, k => rfl
 | .b8 _ _, k => rfl
 | .w32 _ _, k => rfl
 | .w64 _ _, k => rfl
 | .n64 _ _, k => rfl
 | .ptr _ _, k => rfl
 | .pix _ _ _ _, k => rfl
 | .sl _ _ _ _, k => rfl
 | .vec8 _ _, k => rfl
 | .vec _ _ _, k => rfl
 | .vecr _ _ _ _, k => rfl
 | .slv _ _ _ _, k => rfl
 | .vp _ _, k => rfl
 | .vpx _ _ _ _, k => rfl
theorem z9p : ∀ (l : List AV) (k : List AV → Prop), fL l k = k l
 | [], k => rfl
 | a :: as, k => (z137 a fun a' => fL as fun as' => k (a' :: as')).trans (z9p as fun as' => k (a :: as'))
end
def qA (n : Nat) (a : AV) : Bool := AV.rec (motive_1 := fun _ => Bool) (motive_2 := fun _ => Bool) true (fun _ => true) (fun _ _ => true) (fun _ => true) (fun _ => true) (fun _ => true) (fun _ => true) (fun _ => true) (fun _ _ => true) (fun _ _ => true) (fun _ _ => true) (fun _ _ => true) (fun i _ => n - i != 0) (fun i _ _ _ => n - i != 0) (fun i _ _ _ => n - i != 0) (fun _ _ => true) (fun _ _ _ ih => ih) (fun _ _ _ _ _ => true) (fun i _ _ _ _ => n - i != 0) (fun _ _ ih => ih) (fun _ _ _ _ ih => ih) (fun _ _ _ iha ihb => iha && ihb) (fun _ ih => ih) (fun _ ih => ih) true (fun _ _ iha ihl => iha && ihl) a
def qL (n : Nat) (l : List AV) : Bool := AV.rec_1 (motive_1 := fun _ => Bool) (motive_2 := fun _ => Bool) true (fun _ => true) (fun _ _ => true) (fun _ => true) (fun _ => true) (fun _ => true) (fun _ => true) (fun _ => true) (fun _ _ => true) (fun _ _ => true) (fun _ _ => true) (fun _ _ => true) (fun i _ => n - i != 0) (fun i _ _ _ => n - i != 0) (fun i _ _ _ => n - i != 0) (fun _ _ => true) (fun _ _ _ ih => ih) (fun _ _ _ _ _ => true) (fun i _ _ _ _ => n - i != 0) (fun _ _ ih => ih) (fun _ _ _ _ ih => ih) (fun _ _ _ iha ihb => iha && ihb) (fun _ ih => ih) (fun _ ih => ih) true (fun _ _ iha ihl => iha && ihl) l
mutual
theorem z1b1 (n : Nat) : ∀ a : AV, qA n a = z35 n a
 | .agg l => zbw n l
 | .tup l => zbw n l
 | .vec _ _ l => zbw n l
 | .vp l _ => zbw n l
 | .vpx l _ _ _ => zbw n l
 | .fn _ a b => by show (qL n a && qL n b) = (z2s n a && z2s n b); rw [zbw n a, zbw n b]
 | .any => rfl
 | .raw _ => rfl
 | .int _ _ => rfl
 | .u8 _ => rfl
 | .u32 _ => rfl
 | .u64 _ => rfl
 | .bool _ => rfl
 | .str _ => rfl
 | .b8 _ _ => rfl
 | .w32 _ _ => rfl
 | .w64 _ _ => rfl
 | .n64 _ _ => rfl
 | .ptr _ _ => rfl
 | .pix _ _ _ _ => rfl
 | .sl _ _ _ _ => rfl
 | .vec8 _ _ => rfl
 | .vecr _ _ _ _ => rfl
 | .slv _ _ _ _ => rfl
theorem zbw (n : Nat) : ∀ l : List AV, qL n l = z2s n l
 | [] => rfl
 | a :: as => by show (qA n a && qL n as) = (z35 n a && z2s n as); rw [z1b1 n a, zbw n as]
end
def fSet (t : List AV) : Nat → AV → (List AV → Prop) → Prop :=
 @List.rec AV (fun _ => Nat → AV → (List AV → Prop) → Prop) (fun _ _ k => k []) (fun a as ih d v k => @Nat.rec (fun _ => Prop) (k (v :: as)) (fun n _ => ih n v fun t' => k (a :: t')) d) t
theorem zpx : ∀ (l : List AV) (n : Nat) (v : AV) (k : List AV → Prop), fSet l n v k = k (l.set n v)
 | [], _, _, _ => rfl
 | _ :: _, 0, _, _ => rfl
 | a :: as, n + 1, v, k => zpx as n v fun t' => k (a :: t')
def zhc (t : List AV) (d : Option Tmp) (v : AV) (k : List AV → Prop) : Prop := match d with
 | none => k t
 | some d => fA v fun v' => fSet t d v' k
theorem zai (t : List AV) (d : Option Tmp) (v : AV) (k : List AV → Prop) : zhc t d v k = k (z4n t d v) := by
 cases d <;> simp [zhc, z4n, z137, zpx]
def fE : Ent → (Ent → Prop) → Prop
 | .dead, k => k .dead
 | .res, k => k .res
 | .blk c f, k => fL c fun c' => k (.blk c' f)
 | .grow8 l f, k => k (.grow8 l f)
 | .grow n r f, k => k (.grow n r f)
 | .tail n m, k => k (.tail n m)
theorem z12a (e : Ent) (k : Ent → Prop) : fE e k = k e := by cases e <;> simp [fE, z9p]
def fH (H : Heap) : (Heap → Prop) → Prop :=
 @List.rec Ent (fun _ => (Heap → Prop) → Prop) (fun k => k []) (fun e _ ih k => fE e fun e' => ih fun r' => k (e' :: r')) H
theorem ze4 : ∀ (H : Heap) (k : Heap → Prop), fH H k = k H
 | [], _ => rfl
 | e :: r, k => (z12a e fun e' => fH r fun r' => k (e' :: r')).trans (ze4 r fun r' => k (e :: r'))
def z1b7 (H : Heap) : Nat → Ent → (Heap → Prop) → Prop :=
 @List.rec Ent (fun _ => Nat → Ent → (Heap → Prop) → Prop) (fun _ _ k => k []) (fun a as ih d v k => @Nat.rec (fun _ => Prop) (k (v :: as)) (fun n _ => ih n v fun t' => k (a :: t')) d) H
theorem zw3 : ∀ (l : Heap) (n : Nat) (v : Ent) (k : Heap → Prop), z1b7 l n v k = k (l.set n v)
 | [], _, _, _ => rfl
 | _ :: _, 0, _, _ => rfl
 | a :: as, n + 1, v, k => zw3 as n v fun t' => k (a :: t')
def fUpd (H : Heap) (u : List (Nat × Ent)) (k : Heap → Prop) : Prop := match u with
 | [] => k H
 | [(i, e)] => fE e fun e' => z1b7 H i e' k
 | u => fH (zm H u) k
theorem zyd (H : Heap) (u : List (Nat × Ent)) (k : Heap → Prop) : fUpd H u k = k (zm H u) := by
 unfold fUpd
 split
 ·rfl
 ·rw [z12a, zw3]; rfl
 ·rw [ze4]
def fExt (n : Nat) (H : Heap) (u : List (Nat × Ent)) (k : Heap → Prop) : Prop := match n with
 | 0 => fUpd H u k
 | n + 1 => fH (trim (n + 1) (zm (zmc H (n + 1)) u)) k
theorem z1cz (n : Nat) (H : Heap) (u : List (Nat × Ent)) (k : Heap → Prop) : fExt n H u k = k (trim n (zm (zmc H n) u)) := by
 cases n with
 | zero => exact zyd H u k
 | succ n => exact ze4 _ k
def fN (l : List Nat) : (List Nat → Prop) → Prop :=
 @List.rec Nat (fun _ => (List Nat → Prop) → Prop) (fun k => k []) (fun a _ ih k => ih fun as' => k (a :: as')) l
theorem z1bo : ∀ (l : List Nat) (k : List Nat → Prop), fN l k = k l
 | [], _ => rfl
 | a :: as, k => z1bo as fun as' => k (a :: as')
def fU (l : List (Nat × Ent)) : (List (Nat × Ent) → Prop) → Prop :=
 @List.rec (Nat × Ent) (fun _ => (List (Nat × Ent) → Prop) → Prop) (fun k => k []) (fun p _ ih k => fE p.2 fun e' => ih fun r' => k ((p.1, e') :: r')) l
theorem z1b6 : ∀ (l : List (Nat × Ent)) (k : List (Nat × Ent) → Prop), fU l k = k l
 | [], _ => rfl
 | (i, e) :: r, k => (z12a e fun e' => fU r fun r' => k ((i, e') :: r')).trans (z1b6 r fun r' => k ((i, e) :: r'))
def zjl (t : List AV) (d : Nat) (b : Bool) (k : List AV → Prop) : Prop := fSet t d (.bool b) k
theorem zcf {t : List AV} {d : Nat} {b : Bool} {k : List AV → Prop} (h : t.getD d .any = .bool b) : zjl t d b k = k t := by
 unfold zjl;rw [zpx]
 congr 1
 apply List.ext_getElem?;intro i;rw [List.getElem?_set]
 split
 ·rename_i e; subst e
  split
  ·rename_i hl;rw [List.getD_eq_getElem?_getD, List.getElem?_eq_getElem hl] at h;rw [List.getElem?_eq_getElem hl]; simpa using h.symm
  ·rename_i hl; simp; omega
 ·rfl
section
variable {P : Program} (G : Env P) (R : ROps G) (C : FuncId → List AV → Option (Bool × Out))
def zn1 (nid : Nat) (o : Oper) (s : St) (K : DEff → Prop) : Prop :=
 match eff G R C o.op (evA G s.t) s.H nid with
 | some E => E.go fun v u => fA v fun v => fU u fun u => fN (z1u (evA G s.t) o.op nid (z3d G o.op) ++ u.map (·.1)) fun rs => K ⟨o.dst, v, u, rs⟩
 | none => zcn o s
def zvq (ops : Array Oper) (nid : Nat) (o : Oper) (s : St) (K : List AV → DEff → Prop) : Prop :=
 match o.guard with
 | none => zn1 G R C nid o s (K s.t)
 | some (j, want) =>
  match (ops[j]?).bind (·.dst) with
  | none => K s.t ⟨o.dst, .tup [], [], []⟩
  | some d =>
   match zi5 s.t d with
   | .bool b => ifW b want (zjl s.t d want fun t => zn1 G R C nid o ⟨t, s.H⟩ (K t)) (zjl s.t d (!want) fun t => K t ⟨o.dst, .tup [], [], []⟩)
   | .tup _ => K s.t ⟨o.dst, .tup [], [], []⟩
   | _ => zcn o s
def zob (cl : FuncId → List AV → St → Option Tmp → (St → Prop) → Prop) (o : Oper) (s : St) (K : St → Prop) : Prop :=
 match z40 G o.op (evA G s.t) s.H with
 | some (c, v) => cnd c (zhc s.t o.dst v fun t => K ⟨t, s.H⟩)
 | none =>
  match eff G R C o.op (evA G s.t) (zmc s.H (z3d G o.op)) s.H.length with
  | some E => E.go fun v u => zhc s.t o.dst v fun t => fExt (z3d G o.op) s.H u fun H => K ⟨t, H⟩
  | none =>
   match z6f o.op (evA G s.t) with
   | some (f, args) => cnd (G.go f) (cl f args s o.dst K)
   | none => zcn o s
def zuf (cl : FuncId → List AV → St → Option Tmp → (St → Prop) → Prop) (ops : Array Oper) (o : Oper) (s : St) (K : St → Prop) : Prop :=
 match o.guard with
 | none => zob G R C cl o s K
 | some (j, want) =>
  match (ops[j]?).bind (·.dst) with
  | none => zhc s.t o.dst (.tup []) fun t => K ⟨t, s.H⟩
  | some d =>
   match zi5 s.t d with
   | .bool b => ifW b want (zjl s.t d want fun t => zob G R C cl o ⟨t, s.H⟩ K) (zjl s.t d (!want) fun t => zhc t o.dst (.tup []) fun t => K ⟨t, s.H⟩)
   | .tup _ => zhc s.t o.dst (.tup []) fun t => K ⟨t, s.H⟩
   | _ => zcn o s
def zv2 (cl : FuncId → List AV → St → Option Tmp → (St → Prop) → Prop) (ops : Array Oper) : List Oper → St → (St → Prop) → Prop
 | [], s, K => K s
 | o :: rest, s, K => zuf G R C cl ops o s fun s' => zv2 cl ops rest s' K
end
section
variable {P : Program} {G : Env P} {ρ : Rho} {I : Imm} {H : Heap} {w : World}
structure Agree {P : Program} (G : Env P) (ops : Array Oper) (o : Oper) (rs : List Nat) (s s' : St) : Prop where
 look : ∀ t ∈ o.looksAt ops, s'.t.getD t .any = s.t.getD t .any
 read : ∀ id ∈ rs, s'.H[id]? = s.H[id]?
theorem Agree.ev {ops : Array Oper} {o : Oper} {rs : List Nat} {s s' : St} (h : Agree G ops o rs s s') {x : Operand} (hx : x ∈ o.op.operands) : evA G s'.t x = evA G s.t x := by
 cases x with
 | tmp t =>
  show zi5 _ _ = zi5 _ _;rw [z5z, z5z];refine h.look t ?_;unfold Oper.looksAt;rw [List.mem_append]
  left
  rw [List.mem_filterMap];exact ⟨.tmp t, by simpa using hx, rfl⟩
 | _ => rfl
theorem Agree.mono {ops : Array Oper} {o : Oper} {rs rs' : List Nat} {s s' : St} (h : Agree G ops o rs s s') (hr : ∀ x ∈ rs', x ∈ rs) : Agree G ops o rs' s s' :=
 ⟨h.look, fun id hid => h.read id (hr id hid)⟩
theorem zde (c : Conc G.g ρ I H w) (n : Nat) : Good ρ I H w ρ I (H ++ List.replicate n .res) w ∧ Conc G.g ρ I (H ++ List.replicate n .res) w := by
 have hget : ∀ (i : Nat) (e : Ent), (H ++ List.replicate n .res)[i]? = some e → (H[i]? = some e) ∨ (H.length ≤ i ∧ e = .res) := by
  intro i e h;rcases Nat.lt_or_ge i H.length with hi | hi
  ·left; rwa [List.getElem?_append_left hi] at h
  ·right
   rw [List.getElem?_append_right hi, List.getElem?_replicate] at h
   split at h
   ·simp at h; exact ⟨hi, h.symm⟩
   ·simp at h
 have live : ∀ (i : Nat) (e : Ent), (H ++ List.replicate n .res)[i]? = some e → e.live = true → H[i]? = some e := by
  intro i e h hl;rcases hget i e h with h | ⟨_, rfl⟩
  ·exact h
  ·simp [Ent.live] at hl
 have g : Good ρ I H w ρ I (H ++ List.replicate n .res) w :=
  ⟨fun _ _ h => h, fun id x _ ⟨e, h1, h2⟩ => ⟨e, live id e h1 (by cases e <;> simp_all [Ent.grows, Ent.live]), h2⟩, by simp, fun _ _ h => h, fun _ _ _ h => .inl h, rfl, rfl, rfl, Nat.le_refl _, fun _ _ _ _ => rfl, fun _ _ _ => rfl, fun _ _ => rfl,
   fun b o _ ⟨i, e, h1, h2, h3, h4⟩ => ⟨i, e, live i e h1 h2, h2, h3, h4⟩, fun b _ ⟨i, e, h1, h2, h3⟩ => ⟨i, e, live i e h1 h2, h2, h3⟩⟩
 refine ⟨g, fun id h => by have := c.dom id h; simp; omega, fun id h => ?_, c.blt, fun i j b e e' hi l1 hj l2 => c.inj i j b e e' (live i e hi l1) l1 (live j e' hj l2) l2,
  fun id cs f h => c.blk id cs f (live id _ h rfl), fun id e h he => c.grow id e (live id _ h (by cases e <;> simp_all [Ent.grows, Ent.live])) he, fun b o h => ⟨(c.imm b o h).1, fun hm => (c.imm b o h).2 (g.wrt b o (c.imm b o h).1 hm)⟩, c.glob⟩
 rcases hget id _ h with h | ⟨h, _⟩
 ·exact c.res id h
 ·exact Classical.byContradiction fun hn => by have := c.dom id hn; omega
def zgb {P : Program} (G : Env P) (ops : Array Oper) (o : Oper) (e : DEff) (s : St) : Prop :=
 e.dst = o.dst ∧ (∀ p ∈ e.upd, p.1 ∈ e.reads) ∧
 ∀ s', Agree G ops o e.reads s s' → ∀ (ρ : Rho) (I : Imm) (w : World) (a : Act) (next : Act → World → Prop) (Q : Exit → Act → World → Prop), Conc G.g ρ I s'.H w → RelT ρ I w s'.t a →
  Leads G ρ I s'.H w (fun s2 => s2 = z2z e s') next → if Region.wanted o (yielded ops a.tmps) then o.wp P a w next Q else next (a.put o.dst undef) w
theorem zxg {R : ROps G} {T : Ctr G} {ops : Array Oper} {nid : Nat} {o : Oper} {s : St} {K : DEff → Prop} (h : zn1 G R T.C nid o s K) :
  ∃ e, K e ∧ e.dst = o.dst ∧ (∀ p ∈ e.upd, p.1 ∈ e.reads) ∧
   ∀ s', Agree G ops o e.reads s s' → ∀ (ρ : Rho) (I : Imm) (w : World) (a : Act) (next : Act → World → Prop) (Q : Exit → Act → World → Prop), Conc G.g ρ I s'.H w → RelT ρ I w s'.t a →
    Leads G ρ I s'.H w (fun s2 => s2 = z2z e s') next → o.wp P a w next Q := by
 unfold zn1 at h
 split at h
 ·rename_i E hE;obtain ⟨v, u, hh, hk⟩ := Eff.z1lv h;rw [z137, z1b6, z1bo] at hk;refine ⟨_, hk, rfl, fun p hp => List.mem_append_right _ (List.mem_map.2 ⟨p, hp, rfl⟩), ?_⟩
  intro s' ag ρ I w a next Q hC hR hn;have hE' : eff G R T.C o.op (evA G s'.t) s'.H nid = some E := by
   rw [z174 (fun x hx => ag.ev hx) (fun id hid => ag.read id (List.mem_append_left _ hid))]
   exact hE
  refine zqg R T hC hR hE' hh ?_;intro ρ' I' x w' g c m r;exact hn ρ' I' (z2z ⟨o.dst, v, u, z1u (evA G s.t) o.op nid (z3d G o.op) ++ u.map (·.1)⟩ s') _ w' g c ((hR.mono m).put o.dst r) rfl
 ·exact (zcb h).elim
theorem zu0 {ops : Array Oper} {R : ROps G} {T : Ctr G} {nid : Nat} {o : Oper} {s : St} {K : List AV → DEff → Prop} (h : zvq G R T.C ops nid o s K) : ∃ e, K s.t e ∧ zgb G ops o e s := by
 have skip : ∀ (hy : ∀ s' rs, Agree G ops o rs s s' → ∀ ρ I w a, RelT ρ I w s'.t a → Region.wanted o (yielded ops a.tmps) = false), K s.t ⟨o.dst, .tup [], [], []⟩ → ∃ e, K s.t e ∧ zgb G ops o e s := by
  intro hy hk;refine ⟨_, hk, rfl, fun _ h => by simp at h, ?_⟩
  intro s' ag ρ I w a next Q hC hR hn;rw [hy s' _ ag ρ I w a hR];simp only [Bool.false_eq_true, if_false];exact hn ρ I (z2z ⟨o.dst, .tup [], [], []⟩ s') _ w (Good.refl _ _ _ _) hC (hR.put _ z8z) rfl
 have take : zn1 G R T.C nid o s (K s.t) → (∀ s' rs, Agree G ops o rs s s' → ∀ ρ I w a, RelT ρ I w s'.t a → Region.wanted o (yielded ops a.tmps) = true) → ∃ e, K s.t e ∧ zgb G ops o e s := by
  intro hd hy;obtain ⟨e, h1, h2, h3, h4⟩ := zxg (ops := ops) hd;refine ⟨e, h1, h2, h3, ?_⟩;intro s' ag ρ I w a next Q hC hR hn;rw [hy s' _ ag ρ I w a hR];simp only [if_true];exact h4 s' ag ρ I w a next Q hC hR hn
 unfold zvq at h
 split at h
 ·rename_i hg;exact take h fun s' rs ag ρ I w a hR => by unfold Region.wanted; rw [hg]
 ·rename_i j want hg
  split at h
  ·rename_i hd;refine skip (fun s' rs ag ρ I w a hR => ?_) h
   unfold Region.wanted;rw [hg];have : yielded ops a.tmps j = none := by unfold yielded; rw [hd]; rfl
   simp [this]
  ·rename_i d hd;have hlook : d ∈ o.looksAt ops := by
    unfold Oper.looksAt;rw [List.mem_append]
    right
    rw [hg];simp [hd]
   split at h
   ·rename_i b hb;rw [z5z] at hb;have h := zq2.1 h
    by_cases e : b = want
    ·have h1 := h.1 e;rw [zcf (by rw [hb, e])] at h1
     refine take h1 fun s' rs ag ρ I w a hR => ?_
     unfold Region.wanted;rw [hg];simp only;rw [z9e hR hd ((ag.look d hlook).trans hb), e];simp
    ·have e' : b = !want := by cases b <;> cases want <;> simp_all
     have h1 := h.2 e';rw [zcf (by rw [hb, e'])] at h1
     refine skip (fun s' rs ag ρ I w a hR => ?_) h1
     unfold Region.wanted;rw [hg];simp only;rw [z9e hR hd ((ag.look d hlook).trans hb)];simp [e]
   ·rename_i l hl;rw [z5z] at hl;refine skip (fun s' rs ag ρ I w a hR => ?_) h
    unfold Region.wanted;rw [hg];simp only;rw [zet hR hd ((ag.look d hlook).trans hl)];simp
   ·exact (zcb h).elim
end
def z1f : DEff := ⟨none, .any, [], []⟩
def z27 (es : List DEff) (l : List Nat) (s : St) : St := l.foldl (fun s i => z2z (es.getD i z1f) s) s
theorem z5h (es : List DEff) (i : Nat) (l : List Nat) (s : St) : z27 es (i :: l) s = z27 es l (z2z (es.getD i z1f) s) := rfl
theorem zaw (es : List DEff) (l l' : List Nat) (s : St) : z27 es (l ++ l') s = z27 es l' (z27 es l s) := by simp [z27]
theorem z7q (e : DEff) (s : St) : (z2z e s).t.length = s.t.length ∧ (z2z e s).H.length = s.H.length := by
 simp only [z2z, z79, and_true];cases e.dst <;> simp [z4n]
theorem zqp (t : List AV) (d : Option Tmp) (v : AV) (x : Nat) : (z4n t d v).getD x .any = if d = some x ∧ x < t.length then v else t.getD x .any := by
 cases d with
 | none => simp [z4n]
 | some d =>
  simp only [z4n, List.getD_eq_getElem?_getD, List.getElem?_set, Option.some.injEq]
  by_cases h : d = x
  ·subst h
   by_cases h2 : d < t.length
   ·simp [h2]
   ·simp [h2]
  ·simp [h]
theorem zgr (es : List DEff) (x : Nat) : ∀ (l : List Nat) (s s' : St), s.t.getD x .any = s'.t.getD x .any → s.t.length = s'.t.length →
  (z27 es l s).t.getD x .any = (z27 es (l.filter fun i => (es.getD i z1f).dst = some x) s').t.getD x .any
 | [], s, s', h, _ => h
 | i :: l, s, s', h, hl => by
  rw [z5h]
  by_cases hd : (es.getD i z1f).dst = some x
  ·rw [List.filter_cons_of_pos (by simpa using hd), z5h]
   refine zgr es x l _ _ ?_ (by rw [(z7q _ _).1, (z7q _ _).1, hl])
   simp only [z2z, zqp, hd, hl, h]
  ·rw [List.filter_cons_of_neg (by simpa using hd)]
   refine zgr es x l _ _ ?_ (by rw [(z7q _ _).1, hl])
   rw [← h];simp only [z2z, zqp, hd, false_and, if_false]
def wrH (e : DEff) (id : Nat) : Bool := e.upd.any fun p => p.1 == id
theorem zgv : ∀ (u : List (Nat × Ent)) (H : Heap) (id : Nat), (u.any fun p => p.1 == id) = false → (zm H u)[id]? = H[id]?
 | [], H, id, _ => rfl
 | (i, x) :: r, H, id, h => by
  simp only [List.any_cons, Bool.or_eq_false_iff, beq_eq_false_iff_ne, ne_eq] at h;rw [zm, zgv r _ id h.2, List.getElem?_set_ne h.1]
theorem zqb : ∀ (u : List (Nat × Ent)) (H H' : Heap) (id : Nat), (u.any fun p => p.1 == id) = true → H.length = H'.length → (zm H u)[id]? = (zm H' u)[id]?
 | [], H, H', id, h, _ => by simp at h
 | (i, x) :: r, H, H', id, h, hl => by
  rw [zm, zm];cases hr : r.any fun p => p.1 == id
  ·have hi : i = id := by
    have : (i == id) = true := by simpa [hr] using h
    simpa using this
   subst hi;rw [zgv r _ i hr, zgv r _ i hr];simp only [List.getElem?_set, if_true, hl]
  ·exact zqb r _ _ id hr (by simp [hl])
theorem zu5 : ∀ (u : List (Nat × Ent)) (H : Heap) (i : Nat) (x : Ent), (u.any fun p => p.1 == i) = false → zm (H.set i x) u = (zm H u).set i x
 | [], _, _, _, _ => rfl
 | (j, y) :: r, H, i, x, h => by
  simp only [List.any_cons, Bool.or_eq_false_iff, beq_eq_false_iff_ne, ne_eq] at h;rw [zm, zm, List.set_comm _ _ (fun e => h.1 e.symm), zu5 r _ i x h.2]
theorem zqk : ∀ (u v : List (Nat × Ent)) (H : Heap), (∀ p ∈ u, (v.any fun q => q.1 == p.1) = false) → zm (zm H v) u = zm (zm H u) v
 | [], _, _, _ => rfl
 | (i, x) :: r, v, H, h => by
  rw [zm, zm, ← zu5 v H i x (h (i, x) (by simp)), zqk r v _ fun p hp => h p (by simp [hp])]
theorem z19y (e : DEff) (s : St) (id : Nat) (h : wrH e id = false) : (z2z e s).H[id]? = s.H[id]? := zgv _ _ _ h
theorem zro (e : DEff) (s s' : St) (id : Nat) (h : wrH e id = true) (hl : s.H.length = s'.H.length) : (z2z e s).H[id]? = (z2z e s').H[id]? := zqb _ _ _ _ h hl
theorem zmn (es : List DEff) (id : Nat) : ∀ (l : List Nat) (s s' : St), s.H[id]? = s'.H[id]? → s.H.length = s'.H.length →
  (z27 es l s).H[id]? = (z27 es (l.filter fun i => wrH (es.getD i z1f) id) s').H[id]?
 | [], s, s', h, _ => h
 | i :: l, s, s', h, hl => by
  rw [z5h];cases hd : wrH (es.getD i z1f) id
  ·rw [List.filter_cons_of_neg (by rw [hd]; simp)]
   exact zmn es id l _ _ (by rw [← h]; exact z19y _ _ _ hd) (by rw [(z7q _ _).2, hl])
  ·rw [List.filter_cons_of_pos (p := fun i => wrH (es.getD i z1f) id) hd, z5h]
   exact zmn es id l _ _ (zro _ _ _ _ hd hl) (by rw [(z7q _ _).2, (z7q _ _).2, hl])
theorem zx9 (e f : DEff) (s : St) (h1 : ∀ d, e.dst = some d → f.dst ≠ some d) (h2 : ∀ p ∈ e.upd, wrH f p.1 = false) : z2z e (z2z f s) = z2z f (z2z e s) := by
 have ht : z4n (z4n s.t f.dst f.val) e.dst e.val = z4n (z4n s.t e.dst e.val) f.dst f.val := by
  cases he : e.dst with
  | none => rfl
  | some d =>
   cases hf : f.dst with
   | none => rfl
   | some d' =>
    have : d ≠ d' := fun h => h1 d he (by rw [hf, h])
    simp only [z4n];rw [List.set_comm _ _ this.symm]
 simp only [z2z, ht, St.mk.injEq, true_and];exact zqk _ _ _ h2
theorem zrg (es : List DEff) (e : DEff) : ∀ (l : List Nat) (s : St), (∀ j ∈ l, (∀ d, e.dst = some d → (es.getD j z1f).dst ≠ some d) ∧ ∀ p ∈ e.upd, wrH (es.getD j z1f) p.1 = false) →
  z27 es l (z2z e s) = z2z e (z27 es l s)
 | [], _, _ => rfl
 | j :: l, s, h => by
  obtain ⟨h1, h2⟩ := h j (by simp)
  rw [z5h, z5h, ← zx9 e _ s h1 h2];exact zrg es e l _ fun k hk => h k (by simp [hk])
theorem zau (p p' : Nat → Bool) (i : Nat) (hp : p i = false) (hp' : ∀ j, p' j = (p j || j == i)) : ∀ (n : Nat), i < n →
  ∃ l1 l2, (List.range n).filter p = l1 ++ l2 ∧ (List.range n).filter p' = l1 ++ i :: l2 ∧ ∀ j ∈ l2, i < j ∧ p j = true ∧ j < n
 | 0, h => by omega
 | n + 1, h => by
  have hsame : ∀ m, m ≤ i → (List.range m).filter p' = (List.range m).filter p := by
   intro m hm;refine List.filter_congr fun j hj => ?_
   have : j < m := by simpa using hj
   rw [hp' j];have : (j == i) = false := by simp; omega
   simp [this]
  rw [List.range_succ, List.filter_append, List.filter_append]
  by_cases e : i = n
  ·subst e;refine ⟨(List.range i).filter p, [], by simp [hp], by simp [hsame i (Nat.le_refl _), hp'], by simp⟩
  ·obtain ⟨l1, l2, h1, h2, h3⟩ := zau p p' i hp hp' n (by omega)
   have hn : p' n = p n := by rw [hp' n]; have : (n == i) = false := by simp; omega
                              simp [this]
   cases hpn : p n
   ·refine ⟨l1, l2, by simp [h1, hpn], by simp [h2, hn, hpn], fun j hj => ⟨(h3 j hj).1, (h3 j hj).2.1, by have := (h3 j hj).2.2; omega⟩⟩
   ·refine ⟨l1, l2 ++ [n], by simp [h1, hpn], by simp [h2, hn, hpn], fun j hj => ?_⟩
    rcases List.mem_append.1 hj with hj | hj
    ·exact ⟨(h3 j hj).1, (h3 j hj).2.1, by have := (h3 j hj).2.2; omega⟩
    ·have : j = n := by simpa using hj
     subst this;exact ⟨by omega, hpn, by omega⟩
def msk (acc : List Nat) (o : Oper) : Nat := o.after.toList.foldl (fun m e => if Region.binds .any e then (m ||| 2 ^ e.on) ||| acc.getD e.on 0 else m) 0
def z9h : List Oper → List Nat → List Nat
 | [], acc => acc
 | o :: r, acc => z9h r (acc ++ [msk acc o])
theorem z1bz (R : Nat → Nat → Prop) (trans : ∀ j m i, R j m → R m i → R j i) {acc : List Nat} {o : Oper} {k : Nat} (hacc : ∀ j i, (acc.getD j 0).testBit i = true → R j i)
  (ho : ∀ e ∈ o.after, Region.binds .any e = true → R k e.on) {i : Nat} (h : (msk acc o).testBit i = true) : R k i := by
 unfold msk at h;have key : ∀ (l : List Edge) (m : Nat), (∀ e ∈ l, e ∈ o.after) → (m.testBit i = true → R k i) →
   (l.foldl (fun m e => if Region.binds .any e then (m ||| 2 ^ e.on) ||| acc.getD e.on 0 else m) m).testBit i = true → R k i := by
  intro l
  induction l with
  | nil => intro m _ hm h; exact hm h
  | cons e l ih =>
   intro m hl hm h;rw [List.foldl_cons] at h;refine ih _ (fun x hx => hl x (by simp [hx])) ?_ h
   intro hb
   by_cases hbd : Region.binds .any e = true
   ·rw [if_pos hbd, Nat.testBit_or, Nat.testBit_or, Bool.or_eq_true, Bool.or_eq_true] at hb;rcases hb with (hb | hb) | hb
    ·exact hm hb
    ·rw [Nat.testBit_two_pow] at hb;have : e.on = i := by simpa using hb
     rw [← this];exact ho e (hl e (by simp)) hbd
    ·exact trans _ _ _ (ho e (hl e (by simp)) hbd) (hacc e.on i hb)
   ·rw [if_neg hbd] at hb;exact hm hb
 exact key _ 0 (fun e he => by simpa using he) (by simp) h
theorem zdw (R : Nat → Nat → Prop) (trans : ∀ j m i, R j m → R m i → R j i) : ∀ (l : List Oper) (acc : List Nat), (∀ j i, (acc.getD j 0).testBit i = true → R j i) →
  (∀ k o, l[k]? = some o → ∀ e ∈ o.after, Region.binds .any e = true → R (acc.length + k) e.on) → ∀ j i, ((z9h l acc).getD j 0).testBit i = true → R j i
 | [], acc, h, _ => h
 | o :: r, acc, h, hd => by
  refine zdw R trans r (acc ++ [msk acc o]) ?_ ?_
  ·intro j i hb;rw [List.getD_eq_getElem?_getD] at hb;rcases Nat.lt_or_ge j acc.length with hlt | hge
   ·rw [List.getElem?_append_left hlt, ← List.getD_eq_getElem?_getD] at hb;exact h j i hb
   ·rw [List.getElem?_append_right hge] at hb
    by_cases e : j = acc.length
    ·subst e;simp at hb;exact z1bz R trans h (hd 0 o rfl) hb
    ·have : 1 ≤ j - acc.length := by omega
     rw [List.getElem?_eq_none (by simpa using this)] at hb
     simp at hb
  ·intro k o' hk;rw [List.length_append, List.length_singleton, show acc.length + 1 + k = acc.length + (k + 1) by omega]
   exact hd (k + 1) o' (by simpa using hk)
def zsz (e f : DEff) : Bool := (e.upd.all fun p => !f.reads.contains p.1) && (f.upd.all fun p => !e.reads.contains p.1)
def zb5 (ops : Array Oper) (tr : List DEff) : Bool :=
 let ms := z9h ops.toList []
 (List.range ops.size).all fun j =>
  ((ops.getD j default).after.all fun e => !Region.binds .any e || decide (e.on < j)) &&
  (List.range j).all fun i => (ms.getD j 0).testBit i || ((ops.getD i default).apart ops (ops.getD j default) && zsz (tr.getD i z1f) (tr.getD j z1f))
section
variable {P : Program} {G : Env P}
structure Indep (ops : Array Oper) (es : List DEff) : Prop where
 fwd : ∀ j o, ops[j]? = some o → ∀ e ∈ o.after, Region.binds .any e = true → e.on < j
 pair : ∀ i j oi oj, i < j → ops[i]? = some oi → ops[j]? = some oj → ((z9h ops.toList []).getD j 0).testBit i = true ∨ (oi.apart ops oj = true ∧ zsz (es.getD i z1f) (es.getD j z1f) = true)
theorem z192 {ops : Array Oper} {es : List DEff} (h : zb5 ops es = true) : Indep ops es := by
 unfold zb5 at h;simp only [List.all_eq_true, List.mem_range, Bool.and_eq_true, Bool.or_eq_true] at h;refine ⟨?_, ?_⟩
 ·intro j o ho e he hb;have hlt : j < ops.size := (Array.getElem?_eq_some_iff.1 ho).1;have h1 := (h j hlt).1;have hg : ops.getD j default = o := by simp [ho]
  rw [hg, Array.all_eq_true_iff_forall_mem] at h1;have := h1 e he;simpa [hb] using this
 ·intro i j oi oj hij hi hj;have hlt : j < ops.size := (Array.getElem?_eq_some_iff.1 hj).1;have h1 := (h j hlt).2 i hij;have hgi : ops.getD i default = oi := by simp [hi]
  have hgj : ops.getD j default = oj := by simp [hj]
  rw [hgi, hgj] at h1;exact h1
theorem wpAny_done {ops : Array Oper} {Q : Exit → Act → World → Prop} {listed : Array Bool} (hall : ∀ i, i < ops.size → listed.getD i false = true) (hsz : listed.size = ops.size) {a : Act} {w : World} (h : Q .normal a w) : ∀ fuel, wpAny P .any ops Q fuel listed a w := by
 have hr : Region.ready .any ops listed = [] := by
  refine List.eq_nil_iff_forall_not_mem.2 fun j hj => ?_
  rw [mem_ready] at hj;obtain ⟨h1, o, ho, _⟩ := hj;have hlt : j < ops.size := (Array.getElem?_eq_some_iff.1 ho).1;have hlt' : j < listed.size := by omega
  have := hall j hlt;simp [hlt'] at h1 this;rw [h1] at this;simp at this
 intro fuel;cases fuel with
 | zero => exact ⟨hr, h⟩
 | succ n => exact ⟨fun _ => h, fun i hi => by rw [hr] at hi; simp at hi⟩
theorem zd7 {P : Nat → Bool} {i : Nat} : ∀ m, i ≤ m → (∀ j, j < m → P j = decide (j < i)) → (List.range m).filter P = List.range i
 | 0, h, _ => by
  have : i = 0 := by omega
  subst this; rfl
 | m + 1, h, hp => by
  by_cases e : i = m + 1
  ·subst e;exact List.filter_eq_self.2 fun j hj => by
    have hj' : j < m + 1 := by simpa using hj
    rw [hp j hj']; simp [hj']
  ·rw [List.range_succ, List.filter_append, zd7 m (by omega) fun j hj => hp j (by omega)]
   have : ¬ m < i := by omega
   simp [hp m (by omega), this]
theorem z12s {ops : Array Oper} {es : List DEff} {s0 : St} {Q : Exit → Act → World → Prop} {lo n0 : Nat} {ρb : Rho} {Ib : Imm} {Hb : Heap} {wb : World} (hI : Indep ops es)
  (hlo : ∀ i, i < lo → es.getD i z1f = z1f)
  (hd : ∀ (k : Nat) (o : Oper), lo ≤ k → k < n0 → ops[k]? = some o → zgb G ops o (es.getD k z1f) (z27 es (List.range k) s0))
  (hQ : ops.size ≤ n0 → ∀ (ρ : Rho) (I : Imm) (w : World) (a : Act), Conc G.g ρ I (z27 es (List.range ops.size) s0).H w → RelT ρ I w (z27 es (List.range ops.size) s0).t a → Good ρb Ib Hb wb ρ I (z27 es (List.range ops.size) s0).H w → Q .normal a w)
  (hls : n0 < ops.size → (∀ i, n0 ≤ i → es.getD i z1f = z1f) ∧ (∀ k, k < n0 → ((z9h ops.toList []).getD n0 0).testBit k = true) ∧ (∀ i, n0 < i → i < ops.size → ((z9h ops.toList []).getD i 0).testBit n0 = true) ∧
   ∀ (fuel : Nat) (listed : Array Bool) (ρ : Rho) (I : Imm) (w : World) (a : Act), listed.size = ops.size → (∀ i, i < ops.size → listed.getD i false = decide (i ≤ n0)) → ((List.range ops.size).filter fun i => !listed.getD i false).length ≤ fuel →
    Conc G.g ρ I (z27 es (List.range n0) s0).H w → RelT ρ I w (z27 es (List.range n0) s0).t a → Good ρb Ib Hb wb ρ I (z27 es (List.range n0) s0).H w → wpOp P ops Q n0 (wpAny P .any ops Q fuel listed) a w) :
  ∀ (fuel : Nat) (listed : Array Bool), listed.size = ops.size → (∀ i, i < lo → i < ops.size → listed.getD i false = true) → (∀ i, n0 ≤ i → i < ops.size → listed.getD i false = false) → (∀ j o, ops[j]? = some o → listed.getD j false = true → ∀ e ∈ o.after, Region.binds .any e = true → listed.getD e.on false = true) →
   ((List.range ops.size).filter fun i => !listed.getD i false).length ≤ fuel → ∀ (ρ : Rho) (I : Imm) (w : World) (a : Act),
   Conc G.g ρ I (z27 es ((List.range ops.size).filter fun i => listed.getD i false) s0).H w → RelT ρ I w (z27 es ((List.range ops.size).filter fun i => listed.getD i false) s0).t a →
   Good ρb Ib Hb wb ρ I (z27 es ((List.range ops.size).filter fun i => listed.getD i false) s0).H w →
   wpAny P .any ops Q fuel listed a w := by
 have alldone : ∀ (listed : Array Bool), listed.size = ops.size → (∀ i, i < ops.size → listed.getD i false = true) → (List.range ops.size).filter (fun i => listed.getD i false) = List.range ops.size := by
  intro listed _ h;rw [List.filter_eq_self];intro i hi;exact h i (by simpa using hi)
 have stuck : ∀ (listed : Array Bool), listed.size = ops.size → Region.ready .any ops listed = [] → ∀ n i, i < n → i < ops.size → listed.getD i false = true := by
  intro listed hsz hr n
  induction n with
  | zero => intro i hi; omega
  | succ n ih =>
   intro i hi hlt;refine Classical.byContradiction fun hn => ?_
   have hn' : listed.getD i false = false := by simpa using hn
   have hmem : i ∈ Region.ready .any ops listed := by
    rw [mem_ready];have hlt' : i < listed.size := by omega
    refine ⟨by simpa [hlt'] using hn', ops[i], by simp [hlt], fun e he hb => ?_⟩
    have := hI.fwd i ops[i] (by simp [hlt]) e he hb
    exact ih e.on (by omega) (by omega)
   rw [hr] at hmem;simp at hmem
 have fin : ∀ (listed : Array Bool), listed.size = ops.size → (∀ i, n0 ≤ i → i < ops.size → listed.getD i false = false) → Region.ready .any ops listed = [] → ∀ (ρ : Rho) (I : Imm) (w : World) (a : Act),
   Conc G.g ρ I (z27 es ((List.range ops.size).filter fun i => listed.getD i false) s0).H w → RelT ρ I w (z27 es ((List.range ops.size).filter fun i => listed.getD i false) s0).t a →
   Good ρb Ib Hb wb ρ I (z27 es ((List.range ops.size).filter fun i => listed.getD i false) s0).H w → Q .normal a w := by
  intro listed hsz hnl hr ρ I w a hC hR hn;have hge : ops.size ≤ n0 := by
   refine Classical.byContradiction fun hlt => ?_
   have h1 := stuck listed hsz hr (n0 + 1) n0 (by omega) (by omega)
   rw [hnl n0 (Nat.le_refl _) (by omega)] at h1
   simp at h1
  have := alldone listed hsz (fun i hi => stuck listed hsz hr (i + 1) i (by omega) hi)
  rw [this] at hC hR hn;exact hQ hge ρ I w a hC hR hn
 intro fuel
 induction fuel with
 | zero =>
  intro listed hsz hll hnl _ hcount ρ I w a hC hR hn;have hall : ∀ i, i < ops.size → listed.getD i false = true := by
   intro i hi;refine Classical.byContradiction fun hf => ?_
   have hm : i ∈ (List.range ops.size).filter fun i => !listed.getD i false := by
    rw [List.mem_filter];exact ⟨by simpa using hi, by simpa using hf⟩
   have := List.length_pos_of_mem hm;omega
  have hr : Region.ready .any ops listed = [] := by
   refine List.eq_nil_iff_forall_not_mem.2 fun j hj => ?_
   rw [mem_ready] at hj;obtain ⟨h1, o, ho, _⟩ := hj;have hlt : j < ops.size := (Array.getElem?_eq_some_iff.1 ho).1;have hlt' : j < listed.size := by omega
   have := hall j hlt;simp [hlt'] at h1 this;rw [h1] at this;simp at this
  exact ⟨hr, fin listed hsz hnl hr ρ I w a hC hR hn⟩
 | succ fuel ih =>
  intro listed hsz hll hnl hdc hcount ρ I w a hC hR hn;refine ⟨fun hr => fin listed hsz hnl hr ρ I w a hC hR hn, ?_⟩
  intro i hi;rw [mem_ready] at hi;obtain ⟨h1, oi, hoi, hrd⟩ := hi;have hlt : i < ops.size := (Array.getElem?_eq_some_iff.1 hoi).1;have hlt' : i < listed.size := by omega
  have hni : listed.getD i false = false := by simpa [hlt'] using h1
  have hmlt : ∀ j k, ((z9h ops.toList []).getD j 0).testBit k = true → k < j :=
   zdw (fun j i => i < j) (fun _ _ _ h1 h2 => Nat.lt_trans h2 h1) ops.toList [] (by simp) (fun k o hk e he hb => by
    simp only [List.length_nil, Nat.zero_add];exact hI.fwd k o (by simpa using hk) e he hb)
  have hdown : ∀ j k, ((z9h ops.toList []).getD j 0).testBit k = true → (listed.getD j false = true ∨ j = i) → (listed.getD k false = true ∨ k = i) :=
   zdw (fun j k => (listed.getD j false = true ∨ j = i) → (listed.getD k false = true ∨ k = i)) (fun _ _ _ h1 h2 h => h2 (h1 h)) ops.toList [] (by simp) (fun k o hk e he hb hD => by
    simp only [List.length_nil, Nat.zero_add] at hD;have hk' : ops[k]? = some o := by simpa using hk
    rcases hD with hD | hD
    ·exact .inl (hdc k o hk' hD e he hb)
    ·subst hD;rw [hoi] at hk';simp at hk';subst hk';exact .inl (hrd e he hb))
  have hbef : ∀ k, ((z9h ops.toList []).getD i 0).testBit k = true → listed.getD k false = true := fun k hk => by
   rcases hdown i k hk (.inr rfl) with h | h
   ·exact h
   ·have := hmlt i k hk; omega
  have hdc' : ∀ j k, ((z9h ops.toList []).getD j 0).testBit k = true → listed.getD j false = true → listed.getD k false = true := 
   zdw (fun j k => listed.getD j false = true → listed.getD k false = true) (fun _ _ _ h1 h2 h => h2 (h1 h)) ops.toList [] (by simp) (fun k o hk e he hb hD => by
    simp only [List.length_nil, Nat.zero_add] at hD;exact hdc k o (by simpa using hk) hD e he hb)
  have hset : ∀ j, (listed.setIfInBounds i true).getD j false = (listed.getD j false || j == i) := by
   intro j
   by_cases e : i = j
   ·subst e; simp [hlt']
   ·rw [getD_set_ne false e];have : (j == i) = false := by simp; omega
    simp [this]
  rcases Nat.lt_or_ge i n0 with hin | hin
  rotate_left
  ·have hns : n0 < ops.size := by omega
   obtain ⟨hne, hmk, hmk2, hwp⟩ := hls hns;have hie : i = n0 := by
    rcases Nat.lt_or_ge n0 i with h | h
    ·have := hbef n0 (hmk2 i h hlt);rw [hnl n0 (Nat.le_refl _) hns] at this;simp at this
    ·omega
   subst hie;have hfilt : (List.range ops.size).filter (fun j => listed.getD j false) = List.range i := by
    refine zd7 ops.size (by omega) fun j hj => ?_
    rcases Nat.lt_or_ge j i with e | e
    ·rw [hbef j (hmk j e)]; simp [e]
    ·rw [hnl j e hj];have : ¬ j < i := by omega
     simp [this]
   rw [hfilt] at hC hR hn;refine hwp fuel (listed.setIfInBounds i true) ρ I w a (by simpa using hsz) (fun k hk => ?_) ?_ hC hR hn
   ·rw [hset];rcases Nat.lt_trichotomy k i with e | e | e
    ·rw [hbef k (hmk k e)]; simp; omega
    ·subst e; simp
    ·rw [hnl k (by omega) hk]
     have h1 : (k == i) = false := by simp; omega
     have h2 : ¬ k ≤ i := by omega
     simp [h1, h2]
   ·obtain ⟨m1, m2, n1, n2, _⟩ := zau (fun j => !(listed.setIfInBounds i true).getD j false) (fun j => !listed.getD j false) i (by show (!(listed.setIfInBounds i true).getD i false) = false; rw [hset i, beq_self_eq_true, Bool.or_true]; rfl) (fun j => by
        show (!listed.getD j false) = (!(listed.setIfInBounds i true).getD j false || j == i);rw [hset j]
        by_cases e : j = i
        ·subst e; rw [hni]; simp
        ·have : (j == i) = false := by simp [e]
         rw [this, Bool.or_false, Bool.or_false]) ops.size hlt
    rw [n2] at hcount;rw [n1];simp only [List.length_append, List.length_cons] at hcount ⊢;omega
  have hloi : lo ≤ i := by
   rcases Nat.lt_or_ge i lo with h | h
   ·rw [hll i h hlt] at hni; simp at hni
   ·exact h
  obtain ⟨hdst, hupd, hdo⟩ := hd i oi hloi hin hoi;have hfree : ∀ j oj, ops[j]? = some oj → j ≠ i → (listed.getD j false = true ↔ j < i) ∨
    ((∀ d, oj.dst = some d → d ∉ oi.looksAt ops) ∧ (∀ d, oi.dst = some d → oj.dst ≠ some d) ∧ (∀ p ∈ (es.getD i z1f).upd, wrH (es.getD j z1f) p.1 = false) ∧
     ∀ q ∈ (es.getD i z1f).reads, wrH (es.getD j z1f) q = false) := by
   intro j oj hoj hji;have wr : ∀ (e f : DEff), (∀ p ∈ e.upd, p.1 ∈ e.reads) → (f.upd.all fun p => !e.reads.contains p.1) = true → (∀ p ∈ e.upd, wrH f p.1 = false) ∧ ∀ q ∈ e.reads, wrH f q = false := by
    intro e f he hf;have h2 : ∀ q ∈ e.reads, wrH f q = false := by
     intro q hq;unfold wrH;rw [List.any_eq_false];intro p hp;rw [List.all_eq_true] at hf;have := hf p hp;simp only [Bool.not_eq_true', List.contains_eq_mem, decide_eq_false_iff_not] at this;simp only [beq_iff_eq];rintro rfl;exact this hq
    exact ⟨fun p hp => h2 p.1 (he p hp), h2⟩
   rcases Nat.lt_or_ge j i with hlt2 | hge2
   ·rcases hI.pair j i oj oi hlt2 hoj hoi with hb | ⟨hap, hfr⟩
    ·exact .inl ⟨fun _ => hlt2, fun _ => hbef j hb⟩
    ·obtain ⟨a1, a2, a3⟩ := Oper.apart_spec hap;simp only [zsz, Bool.and_eq_true] at hfr;obtain ⟨w1, w2⟩ := wr (es.getD i z1f) (es.getD j z1f) hupd hfr.1;exact .inr ⟨a1, fun d hd h => a2 d h hd, w1, w2⟩
   ·have hgt : i < j := by omega
    rcases hI.pair i j oi oj hgt hoi hoj with hb | ⟨hap, hfr⟩
    ·refine .inl ⟨fun hl => ?_, fun h => by omega⟩
     have := hdc' j i hb hl;rw [hni] at this;simp at this
    ·obtain ⟨a1, a2, a3⟩ := Oper.apart_spec hap;simp only [zsz, Bool.and_eq_true] at hfr;obtain ⟨w1, w2⟩ := wr (es.getD i z1f) (es.getD j z1f) hupd hfr.2;exact .inr ⟨a3, fun d hd => a2 d hd, w1, w2⟩
  have hdstj : ∀ j oj t, ops[j]? = some oj → (es.getD j z1f).dst = some t → oj.dst = some t := fun j oj t hj ht => by
   rcases Nat.lt_or_ge j lo with h0 | h0
   ·rw [hlo j h0] at ht; simp [z1f] at ht
   ·rcases Nat.lt_or_ge j n0 with h | h
    ·rw [← (hd j oj h0 h hj).1]; exact ht
    ·have hjs := (Array.getElem?_eq_some_iff.1 hj).1;rw [(hls (by omega)).1 j h] at ht; simp [z1f] at ht
  have hrange : List.range i = (List.range ops.size).filter fun j => decide (j < i) := by
   have : ∀ n, i ≤ n → List.range i = (List.range n).filter fun j => decide (j < i) := by
    intro n
    induction n with
    | zero => intro h; have : i = 0 := by omega
              subst this; rfl
    | succ n ihn =>
     intro h;rw [List.range_succ, List.filter_append]
     by_cases e : i = n + 1
     ·subst e;rw [List.filter_eq_self.2 (fun j hj => by simp at hj; simp; omega)]
      simp [List.range_succ]
     ·rw [← ihn (by omega)]
      have : ¬ n < i := by omega
      simp [this]
   exact this _ (by omega)
  have agree : Agree G ops oi (es.getD i z1f).reads (z27 es (List.range i) s0) (z27 es ((List.range ops.size).filter fun i => listed.getD i false) s0) := by
   refine ⟨fun t ht => ?_, fun q hq => ?_⟩
   ·rw [zgr es t _ s0 s0 rfl rfl, zgr es t (List.range i) s0 s0 rfl rfl];rw [hrange, List.filter_filter, List.filter_filter]
    congr 3
    refine List.filter_congr fun j hj => ?_
    have hj' : j < ops.size := by simpa using hj
    obtain ⟨oj, hoj⟩ : ∃ oj, ops[j]? = some oj := ⟨ops[j], by simp [hj']⟩
    by_cases hjd : (es.getD j z1f).dst = some t
    ·simp only [hjd, decide_true, Bool.true_and]
     by_cases hji : j = i
     ·subst hji; simp [hni]
     ·rcases hfree j oj hoj hji with h | ⟨h, _⟩
      ·rw [Bool.eq_iff_iff]; simpa using h
      ·exact absurd ht (h t (hdstj j oj t hoj hjd))
    ·simp only [hjd, decide_false, Bool.false_and]
   ·rw [zmn es q _ s0 s0 rfl rfl, zmn es q (List.range i) s0 s0 rfl rfl];rw [hrange, List.filter_filter, List.filter_filter]
    congr 3
    refine List.filter_congr fun j hj => ?_
    have hj' : j < ops.size := by simpa using hj
    obtain ⟨oj, hoj⟩ : ∃ oj, ops[j]? = some oj := ⟨ops[j], by simp [hj']⟩
    cases hjw : wrH (es.getD j z1f) q
    ·simp
    ·simp only [Bool.true_and]
     by_cases hji : j = i
     ·subst hji; simp [hni]
     ·rcases hfree j oj hoj hji with h | ⟨_, _, _, h⟩
      ·rw [Bool.eq_iff_iff]; simpa using h
      ·rw [h q hq] at hjw; simp at hjw
  obtain ⟨l1, l2, k1, k2, k3⟩ := zau (fun j => listed.getD j false) (fun j => (listed.setIfInBounds i true).getD j false) i hni hset ops.size hlt
  have hnew : z27 es ((List.range ops.size).filter fun j => (listed.setIfInBounds i true).getD j false) s0 =
    z2z (es.getD i z1f) (z27 es ((List.range ops.size).filter fun i => listed.getD i false) s0) := by
   rw [k2, k1, zaw, zaw, z5h];refine zrg es _ l2 _ fun j hj => ?_
   obtain ⟨q1, q2, q3⟩ := k3 j hj;obtain ⟨oj, hoj⟩ : ∃ oj, ops[j]? = some oj := ⟨ops[j], by simp [q3]⟩
   rcases hfree j oj hoj (by omega) with h | ⟨_, h2, h3, _⟩
   ·have := h.1 q2; omega
   ·exact ⟨fun d hd' hjd => h2 d (by rw [← hdst]; exact hd') (hdstj j oj d hoj hjd), h3⟩
  have := hdo _ agree ρ I w a (wpAny P .any ops Q fuel (listed.setIfInBounds i true)) Q hC hR (by
   intro ρ' I' s' a' w' hg hC' hR' hs';subst hs';rw [← hnew] at hC' hR' hg;refine ih (listed.setIfInBounds i true) (by simpa using hsz) (fun j hj hj' => by rw [hset, hll j hj hj']; rfl) (fun j hj hj' => by
    rw [hset, hnl j hj hj'];have : (j == i) = false := by simp; omega
    rw [this]; rfl) ?_ ?_ ρ' I' w' a' hC' hR' (hn.trans hg)
   ·intro j o ho hl e he hb;rw [hset] at hl ⊢;rw [Bool.or_eq_true] at hl ⊢
    left
    rcases hl with hl | hl
    ·exact hdc j o ho hl e he hb
    ·have : j = i := by simpa using hl
     subst this;rw [hoi] at ho;simp at ho;subst ho;exact hrd e he hb
   ·have hcl : ((List.range ops.size).filter fun j => !(listed.setIfInBounds i true).getD j false).length + 1 ≤ ((List.range ops.size).filter fun j => !listed.getD j false).length := by
     obtain ⟨m1, m2, n1, n2, _⟩ := zau (fun j => !(listed.setIfInBounds i true).getD j false) (fun j => !listed.getD j false) i (by show (!(listed.setIfInBounds i true).getD i false) = false; rw [hset i, beq_self_eq_true, Bool.or_true]; rfl) (fun j => by
      show (!listed.getD j false) = (!(listed.setIfInBounds i true).getD j false || j == i);rw [hset j]
      by_cases e : j = i
      ·subst e; rw [hni]; simp
      ·have : (j == i) = false := by simp [e]
       rw [this, Bool.or_false, Bool.or_false]) ops.size hlt
     rw [n1, n2];simp;omega
    omega)
  unfold wpOp;rw [hoi];simp only
  split
  ·rename_i hw; rw [if_pos hw] at this; exact .inl this
  ·rename_i hw; rw [if_neg hw] at this; exact this
theorem z18n (m j : Nat) : (Array.replicate m false).getD j false = false := by
 simp only [Array.getD_eq_getD_getElem?, Array.getElem?_replicate]
 split <;> rfl
def z5i {P : Program} (G : Env P) : List Oper → Nat
 | [] => 0
 | o :: r => z3d G o.op + z5i G r
def drawn (ops : Array Oper) (Q : Exit → St → Prop) (s : St) (tr : List DEff) : Prop := cnd (zb5 ops tr) (Q .normal s)
variable {ρ : Rho} {I : Imm} {H : Heap} {w : World}
theorem zc4 : ∀ (k : Nat) {H0 : Heap} {ρ0 : Rho} {I0 : Imm} {w0 : World} {ρ : Rho} {I : Imm} {H : Heap} {w : World}, H0.length + k ≤ H.length → Good ρ0 I0 H0 w0 ρ I H w → Conc G.g ρ I H w →
  Good ρ0 I0 H0 w0 ρ I (trim k H) w ∧ Conc G.g ρ I (trim k H) w
 | 0, _, _, _, _, _, _, _, _, _, g, c => ⟨g, c⟩
 | k + 1, H0, ρ0, I0, w0, ρ, I, H, w, hl, g, c => by
  unfold trim
  split
  ·rename_i h;have hH : H = H.dropLast ++ [.res] := by
    rw [List.getLast?_eq_some_iff] at h;obtain ⟨ys, rfl⟩ := h;simp
   have hlen : H.dropLast.length = H.length - 1 := by simp
   rw [hH] at g c;exact zc4 k (by omega) (zs1 (by omega) g) (z17w c)
  ·exact ⟨g, c⟩
def barB (ops : Array Oper) (k : Nat) : Bool :=
 let ms := z9h ops.toList []
 ((List.range k).all fun i => (ms.getD k 0).testBit i) && (List.range ops.size).all fun j => decide (j ≤ k) || (ms.getD j 0).testBit k
def z12l {P : Program} (G : Env P) (R : ROps G) (C : FuncId → List AV → Option (Bool × Out)) (o : Oper) (s : St) (nid : Nat) : Option (FuncId × List AV) :=
 match o.guard with
 | some _ => none
 | none => match z6f o.op (evA G s.t) with
  | none => none
  | some r => match eff G R C o.op (evA G s.t) s.H nid with
   | some _ => none
   | none => some r
def zaz {P : Program} (G : Env P) (R : ROps G) (C : FuncId → List AV → Option (Bool × Out)) (cl : FuncId → List AV → St → Option Tmp → (St → Prop) → Prop) (ops : Array Oper) (Q : St → Prop) : List Oper → Nat → Nat → St → List DEff → Prop
 | [], b, _, s, tr => cnd (zb5 ops tr) (fH (trim (s.H.length - b) s.H) fun H => Q ⟨s.t, H⟩)
 | o :: rest, b, nid, s, tr => match z12l G R C o s nid with
  | some (f, args) => cnd (zb5 ops tr && barB ops tr.length) (cnd (G.go f) (fH (trim (s.H.length - b) s.H) fun H => cl f args ⟨s.t, H⟩ o.dst fun s' =>
    zaz G R C cl ops Q rest s'.H.length s'.H.length ⟨s'.t, s'.H ++ List.replicate (z5i G rest) .res⟩ (List.replicate (tr.length + 1) z1f)))
  | none => zvq G R C ops nid o s fun t e => zhc t e.dst e.val fun t => fUpd s.H e.upd fun H => zaz G R C cl ops Q rest b (nid + z3d G o.op) ⟨t, H⟩ (tr ++ [e])
theorem z12q {R : ROps G} {C : FuncId → List AV → Option (Bool × Out)} {o : Oper} {s : St} {nid : Nat} {f : FuncId} {args : List AV} (h : z12l G R C o s nid = some (f, args)) : o.guard = none ∧ z6f o.op (evA G s.t) = some (f, args) := by
 unfold z12l at h
 split at h
 ·simp at h
 ·rename_i hg
  split at h
  ·simp at h
  ·rename_i r hr
   split at h
   ·simp at h
   ·rw [hr]; exact ⟨hg, h⟩
theorem zhz {R : ROps G} {T : Ctr G} {cl : FuncId → List AV → St → Option Tmp → (St → Prop) → Prop} {ops : Array Oper} {Q : St → Prop} : ∀ (l : List Oper) {b nid : Nat} {s : St} {tr : List DEff}, zaz G R T.C cl ops Q l b nid s tr →
  ∃ es : List DEff, (∀ (k : Nat) (o : Oper), k < es.length → l[k]? = some o → zgb G ops o (es.getD k z1f) (z27 es (List.range k) s)) ∧
   ((es.length = l.length ∧ zb5 ops (tr ++ es) = true ∧ Q ⟨(z27 es (List.range es.length) s).t, trim ((z27 es (List.range es.length) s).H.length - b) (z27 es (List.range es.length) s).H⟩) ∨
    (es.length < l.length ∧ ∃ o f args, l[es.length]? = some o ∧ o.guard = none ∧ z6f o.op (evA G (z27 es (List.range es.length) s).t) = some (f, args) ∧ zb5 ops (tr ++ es) = true ∧ barB ops (tr.length + es.length) = true ∧ G.go f = true ∧
     cl f args ⟨(z27 es (List.range es.length) s).t, trim ((z27 es (List.range es.length) s).H.length - b) (z27 es (List.range es.length) s).H⟩ o.dst fun s' =>
      zaz G R T.C cl ops Q (l.drop (es.length + 1)) s'.H.length s'.H.length ⟨s'.t, s'.H ++ List.replicate (z5i G (l.drop (es.length + 1))) .res⟩ (List.replicate (tr.length + es.length + 1) z1f)))
 | [], b, nid, s, tr, h => by
  unfold zaz at h;obtain ⟨h1, h2⟩ := zd.1 h;rw [ze4] at h2;exact ⟨[], fun k o h => by simp at h, .inl ⟨rfl, by simpa using h1, h2⟩⟩
 | o :: rest, b, nid, s, tr, h => by
  unfold zaz at h
  split at h
  ·rename_i f args hc;obtain ⟨h1, h2⟩ := z12q hc;obtain ⟨g1, g2⟩ := zd.1 h;obtain ⟨g2, g3⟩ := zd.1 g2;rw [ze4] at g3;rw [Bool.and_eq_true] at g1;exact ⟨[], fun k o h => by simp at h, .inr ⟨by simp, o, f, args, rfl, h1, h2, by simpa using g1.1, by simpa using g1.2, g2, g3⟩⟩
  ·obtain ⟨e, h1, h2⟩ := zu0 h;rw [zai, zyd] at h1;obtain ⟨es, g1, g2⟩ := zhz rest (s := z2z e s) h1;have shift : ∀ k, z27 (e :: es) (List.range (k + 1)) s = z27 es (List.range k) (z2z e s) := by
    intro k;rw [List.range_succ_eq_map, z5h];simp only [z27, List.foldl_map, List.getD_cons_zero, List.getD_cons_succ]
   refine ⟨e :: es, fun k o' hk hl => ?_, ?_⟩
   ·cases k with
    | zero =>
     simp at hl;subst hl;simpa [z27] using h2
    | succ k =>
     rw [shift];simpa using g1 k o' (by simpa using hk) (by simpa using hl)
   ·rw [List.length_cons, shift];rcases g2 with ⟨q1, q2, q3⟩ | ⟨q1, o', f, args, q2, q3, q4, q5, q6, q7, q8⟩
    ·exact .inl ⟨by simp [q1], by simpa using q2, q3⟩
    ·refine .inr ⟨by simpa using q1, o', f, args, by simpa using q2, q3, q4, by simpa using q5, ?_, q7, ?_⟩
     ·rw [List.length_append, List.length_singleton] at q6
      rwa [show tr.length + (es.length + 1) = tr.length + 1 + es.length by omega]
     ·rw [List.length_append, List.length_singleton] at q8;rw [List.drop_succ_cons, show tr.length + (es.length + 1) + 1 = tr.length + 1 + es.length + 1 by omega]
      exact q8
theorem zrd (es : List DEff) : ∀ (l : List Nat) (s : St), (∀ i ∈ l, es.getD i z1f = z1f) → z27 es l s = s
 | [], s, _ => rfl
 | i :: l, s, h => by
  rw [z5h, h i (by simp)]
  exact zrd es l _ fun j hj => h j (by simp [hj])
theorem z9q (lo : Nat) (es : List DEff) (s : St) : ∀ k, z27 (List.replicate lo z1f ++ es) (List.range (lo + k)) s = z27 es (List.range k) s
 | 0 => by
  rw [Nat.add_zero];exact zrd _ _ _ fun i hi => by
   have : i < lo := by simpa using hi
   simp [List.getD_eq_getElem?_getD, List.getElem?_append_left, this]
 | k + 1 => by
  rw [← Nat.add_assoc, List.range_succ, List.range_succ, zaw, zaw, z9q lo es s k];have : (List.replicate lo z1f ++ es).getD (lo + k) z1f = es.getD k z1f := by
   rw [List.getD_eq_getElem?_getD, List.getElem?_append_right (by simp), List.length_replicate, Nat.add_sub_cancel_left, ← List.getD_eq_getElem?_getD]
  simp only [z27, List.foldl_cons, List.foldl_nil, this]
theorem zxi {R : ROps G} {T : Ctr G} {cl : FuncId → List AV → St → Option Tmp → (St → Prop) → Prop} (hcl : ∀ f args s d K, cl f args s d K → zc7 G f args s d K) {ops : Array Oper} {Q : St → Prop} {Q' : Exit → Act → World → Prop} : ∀ (n : Nat) (l : List Oper) (lo : Nat), l.length ≤ n → ops.toList.drop lo = l → lo ≤ ops.size →
  ∀ (s : St) (ρ : Rho) (I : Imm) (w : World) (a : Act) (fuel : Nat) (listed : Array Bool), zaz G R T.C cl ops Q l s.H.length s.H.length ⟨s.t, s.H ++ List.replicate (z5i G l) .res⟩ (List.replicate lo z1f) →
   Conc G.g ρ I s.H w → RelT ρ I w s.t a → listed.size = ops.size → (∀ i, i < ops.size → listed.getD i false = decide (i < lo)) → ((List.range ops.size).filter fun i => !listed.getD i false).length ≤ fuel →
   Leads G ρ I s.H w Q (Q' .normal) → wpAny P .any ops Q' fuel listed a w := by
 intro n
 induction n with
 | zero =>
  intro l lo hl hd hle s ρ I w a fuel listed h c r hsz hlist hcount hQ;have hl0 : l = [] := List.length_eq_zero_iff.1 (by omega)
  subst hl0;have hlo : ops.size ≤ lo := by
   have := congrArg List.length hd;simp at this; omega
  unfold zaz at h;obtain ⟨_, h⟩ := zd.1 h;rw [ze4] at h;have hr : List.replicate (z5i G ([] : List Oper)) Ent.res = [] := rfl;rw [hr, List.append_nil, Nat.sub_self] at h;exact wpAny_done (fun i hi => by rw [hlist i hi]; simp; omega) hsz (hQ ρ I ⟨s.t, s.H⟩ a w (Good.refl _ _ _ _) c r h) fuel
 | succ n ih =>
  intro l lo hl hd hle s ρ I w a fuel listed h c r hsz hlist hcount hQ;obtain ⟨es, h4, hcase⟩ := zhz l h;obtain ⟨g, cc⟩ := zde c (z5i G l);have hsize : ops.size = lo + l.length := by
   have := congrArg List.length hd;simp at this; omega
  have hop : ∀ k, ops[lo + k]? = l[k]? := fun k => by
   rw [← hd, List.getElem?_drop, Array.getElem?_toList]
  have hesle : es.length ≤ l.length := by rcases hcase with h | h <;> omega
  have hbase : ∀ i, i < lo → (List.replicate lo z1f ++ es).getD i z1f = z1f := fun i hi => by
   simp [List.getD_eq_getElem?_getD, List.getElem?_append_left, hi]
  have htail : ∀ k, (List.replicate lo z1f ++ es).getD (lo + k) z1f = es.getD k z1f := fun k => by
   rw [List.getD_eq_getElem?_getD, List.getElem?_append_right (by simp), List.length_replicate, Nat.add_sub_cancel_left, ← List.getD_eq_getElem?_getD]
  have hfilt : (List.range ops.size).filter (fun i => listed.getD i false) = List.range lo := by
   exact zd7 ops.size (by omega) hlist
  have hstart : z27 (List.replicate lo z1f ++ es) ((List.range ops.size).filter fun i => listed.getD i false) ⟨s.t, s.H ++ List.replicate (z5i G l) .res⟩ = ⟨s.t, s.H ++ List.replicate (z5i G l) .res⟩ := by
   rw [hfilt];exact z9q lo es _ 0
  have hind : zb5 ops (List.replicate lo z1f ++ es) = true := by rcases hcase with h | ⟨_, _, _, _, _, _, _, h, _⟩ <;> first | exact h.2.1 | exact h
  have hI := z192 hind;have hdoes : ∀ (k : Nat) (o : Oper), lo ≤ k → k < lo + es.length → ops[k]? = some o → zgb G ops o ((List.replicate lo z1f ++ es).getD k z1f) (z27 (List.replicate lo z1f ++ es) (List.range k) ⟨s.t, s.H ++ List.replicate (z5i G l) .res⟩) := fun k o h1 h2 ho => by
   obtain ⟨k', rfl⟩ : ∃ k', k = lo + k' := ⟨k - lo, by omega⟩
   rw [htail, z9q];exact h4 k' o (by omega) (by rw [← hop]; exact ho)
  have hdc : ∀ j o, ops[j]? = some o → listed.getD j false = true → ∀ e ∈ o.after, Region.binds .any e = true → listed.getD e.on false = true := fun j o ho hj e he hb => by
   have h1 := hI.fwd j o ho e he hb;have h2 : j < ops.size := (Array.getElem?_eq_some_iff.1 ho).1;rw [hlist j h2] at hj;have h3 : j < lo := by simpa using hj
   rw [hlist e.on (by omega)]; simp; omega
  refine z12s (s0 := ⟨s.t, s.H ++ List.replicate (z5i G l) .res⟩) (lo := lo) (n0 := lo + es.length) (ρb := ρ) (Ib := I) (Hb := s.H) (wb := w) hI hbase hdoes (fun hge ρ' I' w' a' hC hR hg => ?_) (fun hlt => ?_)
   fuel listed hsz (fun i hi hi2 => by rw [hlist i hi2]; simpa using hi) (fun i hi hi2 => by rw [hlist i hi2]; simp; omega) hdc hcount ρ I w a ?_ ?_ ?_
  ·have hlen : es.length = l.length := by omega
   rcases hcase with ⟨_, _, h3⟩ | ⟨h1, _⟩
   rotate_left
   ·omega
   rw [hsize, ← hlen, z9q] at hC hR hg;obtain ⟨g1, g2⟩ := zc4 ((z27 es (List.range es.length) ⟨s.t, s.H ++ List.replicate (z5i G l) .res⟩).H.length - s.H.length) (H0 := s.H) (by have := hg.len; omega) hg hC
   exact hQ ρ' I' ⟨_, _⟩ a' w' g1 g2 hR h3
  ·rcases hcase with ⟨h1, _⟩ | ⟨h1, o, f, args, ho, hgd, hac, _, hbar, hgo, hcal⟩
   ·omega
   have ho' : ops[lo + es.length]? = some o := by rw [hop]; exact ho
   rw [List.length_replicate] at hbar hcal;unfold barB at hbar;simp only [Bool.and_eq_true, List.all_eq_true, List.mem_range, Bool.or_eq_true, decide_eq_true_eq] at hbar;refine ⟨fun i hi => ?_, hbar.1, fun i hi hi2 => ?_, ?_⟩
   ·obtain ⟨k', rfl⟩ : ∃ k', i = lo + k' := ⟨i - lo, by omega⟩
    rw [htail, List.getD_eq_getElem?_getD, List.getElem?_eq_none (by omega)]; rfl
   ·rcases hbar.2 i hi2 with h | h
    ·omega
    ·exact h
   ·intro fuel' listed' ρ' I' w' a' hsz' hlist' hcount' hC hR hg;rw [z9q] at hC hR hg;obtain ⟨g1, g2⟩ := zc4 ((z27 es (List.range es.length) ⟨s.t, s.H ++ List.replicate (z5i G l) .res⟩).H.length - s.H.length) (H0 := s.H) (by have := hg.len; omega) hg hC
    have re := zfv g2 hR;obtain ⟨vs, q1, q2⟩ := zbe re hac (G.goOk f hgo);unfold wpOp;rw [ho'];simp only [Region.wanted, hgd];rw [if_pos trivial]
    left
    unfold Oper.wp;rw [q1];have := hcl _ _ _ _ _ hcal ρ' I' w' a' vs.toList g2 hR q2;rw [Array.toArray_toList] at this;refine Calls.mono this ?_;rintro e w'' ⟨x, rfl, ρ'', I'', s'', k1, k2, k3, k4⟩;refine ih (l.drop (es.length + 1)) (lo + es.length + 1) (by rw [List.length_drop]; omega) (by rw [← hd, List.drop_drop]; congr 1) (by omega) s'' ρ'' I'' w'' _ fuel' listed' k4 k2 k3 hsz' (fun i hi => ?_) hcount' ?_
    ·rw [hlist' i hi];exact decide_eq_decide.2 (by omega)
    ·intro ρ3 I3 s3 a3 w3 q3 q4 q5 q6;exact hQ ρ3 I3 s3 a3 w3 ((g1.trans k1).trans q3) q4 q5 q6
  ·rw [hstart]; exact cc
  ·rw [hstart]; exact r
  ·rw [hstart]; exact g
theorem Tri.z1nc {R : ROps G} {T : Ctr G} {cl : FuncId → List AV → St → Option Tmp → (St → Prop) → Prop} (hcl : ∀ f args s d K, cl f args s d K → zc7 G f args s d K) {id : Nat} {ops : Array Oper} {Q : Exit → St → Prop} {s : St}
  (h : zaz G R T.C cl ops (Q .normal) ops.toList s.H.length s.H.length ⟨s.t, s.H ++ List.replicate (z5i G ops.toList) .res⟩ []) : Tri G (.region id ops true) Q s := by
 intro ρ I a w hc hr;have gd : Good ρ I s.H w ρ I s.H { w with drawn := w.drawn + 1 } :=
  let g := Good.refl ρ I s.H w
  ⟨g.ext, g.kp, g.len, g.imm, g.imm', rfl, rfl, rfl, Nat.le_refl _, fun _ _ _ _ => rfl, fun _ _ _ => rfl, fun _ _ => rfl, g.wrt, g.own⟩
 have m : Mono ρ I w ρ I { w with drawn := w.drawn + 1 } := ⟨fun _ _ h => h, fun _ _ h => ⟨h, rfl⟩, fun _ h => ⟨h, rfl⟩⟩
 have cd : Conc G.g ρ I s.H { w with drawn := w.drawn + 1 } := by
  refine ⟨hc.dom, hc.res, hc.blt, hc.inj, fun id cs f h => ?_, fun id e h he => ?_, hc.imm, fun g c h => ?_⟩
  ·obtain ⟨b, el, fr, us, k1, k2, k3, k4⟩ := hc.blk id cs f h;exact ⟨b, el, fr, us, k1, k2, z15 m _ _ k3, k4⟩
  ·obtain ⟨q, h⟩ := hc.grow id e h he;refine ⟨q, ?_⟩;rcases h with h | ⟨b, el, fr, us, rest, k1, k2, k3, k4⟩
   ·exact .inl h
   ·exact .inr ⟨b, el, fr, us, rest, k1, k2, z15 m _ _ k3, k4⟩
  ·obtain ⟨us, k1, k2⟩ := hc.glob g c h;exact ⟨us, z4q m k1, k2⟩
 refine wp_region_any G.follows ?_;refine zxi hcl (Q := Q .normal) ops.size ops.toList 0 (by simp) rfl (Nat.zero_le _) s ρ I { w with drawn := w.drawn + 1 } a ops.size (Array.replicate ops.size false) h cd (hr.mono m) (by simp) (fun i _ => by rw [z18n]; simp) (Nat.le_trans (List.length_filter_le _ _) (by simp)) ?_
 intro ρ' I' s' a' w' g c r k;exact ⟨ρ', I', s', gd.trans g, c, r, k⟩
theorem z13y (c : Conc G.g ρ I H w) (n : Nat) : Good ρ I H w ρ I (zmc H n) w ∧ Conc G.g ρ I (zmc H n) w ∧ (zmc H n).length = H.length + n := by
 cases n with
 | zero => exact ⟨Good.refl _ _ _ _, c, rfl⟩
 | succ n => exact ⟨(zde c (n + 1)).1, (zde c (n + 1)).2, by simp [zmc]⟩
variable {R : ROps G} {T : Ctr G} {cl : FuncId → List AV → St → Option Tmp → (St → Prop) → Prop}
theorem zxm (hcl : ∀ f args s d K, cl f args s d K → zc7 G f args s d K) (c : Conc G.g ρ I H w) {t : List AV} {a : Act} (r : RelT ρ I w t a) {o : Oper} {K : St → Prop} (h : zob G R T.C cl o ⟨t, H⟩ K)
  {next : Act → World → Prop} {Q : Exit → Act → World → Prop} (hn : Leads G ρ I H w K next) : o.wp P a w next Q := by
 unfold zob at h
 split at h
 ·rename_i b v hv;obtain ⟨hc, hk⟩ := zd.1 h;refine zem (K := K) c r ?_ hn;unfold step1;rw [hv];rw [zai] at hk;exact zd.2 ⟨hc, hk⟩
 ·rename_i hnone
  split at h
  ·rename_i E hE;obtain ⟨v, u, hh, hk⟩ := Eff.z1lv h;obtain ⟨g1, c1, hl1⟩ := z13y c (z3d G o.op);refine zqg R T c1 r hE hh ?_;intro ρ' I' x w' g c' m r';obtain ⟨g2, c2⟩ := zc4 (z3d G o.op) (H0 := H) (by rw [z79, hl1]; exact Nat.le_refl _) (g1.trans g) c'
   rw [zai, z1cz] at hk;exact hn ρ' I' _ _ w' g2 c2 ((r.mono m).put o.dst r') hk
  ·rename_i hE
   split at h
   ·rename_i f args hcall;obtain ⟨hg, hcs⟩ := zd.1 h;have re := zfv c r;obtain ⟨vs, h1, h2⟩ := zbe re hcall (G.goOk f hg);unfold Oper.wp;rw [h1];have := hcl _ _ _ _ _ hcs ρ I w a vs.toList c r h2;rw [Array.toArray_toList] at this;refine Calls.mono this ?_;rintro e w' ⟨x, rfl, ρ', I', s', g1, g2, g3, g4⟩;exact hn ρ' I' s' _ w' g1 g2 g3 g4
   ·exact (zcb h).elim
theorem zvi (hcl : ∀ f args s d K, cl f args s d K → zc7 G f args s d K) (c : Conc G.g ρ I H w) {t : List AV} {a : Act} (r : RelT ρ I w t a) {ops : Array Oper} {o : Oper} {K : St → Prop} (h : zuf G R T.C cl ops o ⟨t, H⟩ K)
  {next : Act → World → Prop} {Q : Exit → Act → World → Prop} (hn : Leads G ρ I H w K next) :
  if Region.wanted o (yielded ops a.tmps) then o.wp P a w next Q else next (a.put o.dst undef) w := by
 have take : zob G R T.C cl o ⟨t, H⟩ K → Region.wanted o (yielded ops a.tmps) = true → if Region.wanted o (yielded ops a.tmps) then o.wp P a w next Q else next (a.put o.dst undef) w := by
  intro h hy;rw [hy];simp only [if_true];exact zxm hcl c r h hn
 have skip : K ⟨z4n t o.dst (.tup []), H⟩ → Region.wanted o (yielded ops a.tmps) = false → if Region.wanted o (yielded ops a.tmps) then o.wp P a w next Q else next (a.put o.dst undef) w := by
  intro h hy;rw [hy];simp only [Bool.false_eq_true, if_false];exact hn ρ I _ _ w (Good.refl _ _ _ _) c (r.put _ z8z) h
 unfold zuf at h
 split at h
 ·rename_i hg;exact take h (by unfold Region.wanted; rw [hg])
 ·rename_i j want hg
  split at h
  ·rename_i hd;rw [zai] at h;refine skip h ?_;unfold Region.wanted;rw [hg];have : yielded ops a.tmps j = none := by unfold yielded; rw [hd]; rfl
   simp [this]
  ·rename_i d hd
   split at h
   ·rename_i b hb;rw [z5z] at hb;have h := zq2.1 h
    by_cases e : b = want
    ·have h1 := h.1 e;subst e;simp only at hb;rw [zcf hb] at h1;refine take h1 ?_;unfold Region.wanted;rw [hg];simp only;rw [z9e r hd hb];simp
    ·have e' : b = !want := by cases b <;> cases want <;> simp_all
     have h1 := h.2 e';simp only at hb;rw [zcf (by rw [hb, e']), zai] at h1
     refine skip h1 ?_;unfold Region.wanted;rw [hg];simp only;rw [z9e r hd hb];simp [e]
   ·rename_i l hl;rw [z5z] at hl;rw [zai] at h;refine skip h ?_;unfold Region.wanted;rw [hg];simp only;rw [zet r hd hl];simp
   ·exact (zcb h).elim
theorem znh (hcl : ∀ f args s d K, cl f args s d K → zc7 G f args s d K) {ops : Array Oper} {Q : Exit → Act → World → Prop} : ∀ (l : List Oper) {ρ : Rho} {I : Imm} {H : Heap} {w : World} {t : List AV} {a : Act} {K : St → Prop},
  Conc G.g ρ I H w → RelT ρ I w t a → zv2 G R T.C cl ops l ⟨t, H⟩ K → Leads G ρ I H w K (Q .normal) → wpList P ops Q l a w
 | [], ρ, I, H, w, t, a, K, c, r, h, hn => hn ρ I ⟨t, H⟩ a w (Good.refl _ _ _ _) c r h
 | o :: rest, ρ, I, H, w, t, a, K, c, r, h, hn => by
  have := zvi hcl (Q := Q) c r (K := fun s' => zv2 G R T.C cl ops rest s' K) h (next := wpList P ops Q rest)
   (fun ρ' I' s' a' w' g c' r' k => znh hcl rest c' r' k (hn.on g))
  unfold wpList
  split
  ·rename_i hw;rw [if_pos hw] at this;exact .inl this
  ·rename_i hw;rw [if_neg hw] at this;exact this
theorem Tri.z1mt (hcl : ∀ f args s d K, cl f args s d K → zc7 G f args s d K) {id : Nat} {ops : Array Oper} {Q : Exit → St → Prop} {s : St} (h : zv2 G R T.C cl ops ops.toList s (Q .normal)) : Tri G (.region id ops false) Q s := by
 intro ρ I a w hc hr;refine wp_region_list (znh hcl ops.toList hc hr h ?_);intro ρ' I' s' a' w' g c r k;exact ⟨ρ', I', s', g, c, r, k⟩
end
end
noncomputable section
section
variable {P : Program} (G : Env P)
def zjw (s : St) : ResultVar → Option (Bool × AV)
 | .tmp t => some (true, zi5 s.t t)
 | .cell a t => match G.ty t with
  | some ti => zea ti s.H (zi5 s.t a)
  | none => none
def z7d (s : St) : List ResultVar → Option (Bool × List AV)
 | [] => some (true, [])
 | r :: rs => match zjw G s r with
  | some (c, v) => match z7d s rs with
   | some (d, l) => some (c && d, v :: l)
   | none => none
  | none => none
def tupA : List AV → AV
 | [v] => v
 | l => .tup l
def endO (r : Option (Bool × List AV)) (k : AV → Prop) : Prop := match r with
 | some (c, l) => cnd c (k (tupA l))
 | none => False
def aend (fn : Func) (R : AV → Heap → Prop) (e : Exit) (s : St) : Prop := match e with
 | .normal => endO (z7d G s fn.results.toList) fun v => R v s.H
 | .ret => endO (z7d G s fn.results.toList) fun v => R v s.H
 | _ => False
end
section
variable {P : Program} {G : Env P} {ρ : Rho} {I : Imm} {H : Heap} {w : World}
theorem zrt (c : Conc G.g ρ I H w) {t : List AV} {a : Act} (r : RelT ρ I w t a) {rv : ResultVar} {p : Bool × AV} (h : zjw G ⟨t, H⟩ rv = some p) (hp : p.1 = true) :
  ∃ x, (match rv with | .tmp t => (pure (a.tmps.getD t undef) : Sem Value) | .cell b t => do loadVar t (← asAddr (a.tmps.getD b undef))).run P w = .ok x w ∧ rel ρ I w p.2 x := by
 have hget : ∀ i, a.tmps.getD i undef = a.tmps.toList.getD i undef := by
  intro i; simp [Array.getD_eq_getD_getElem?, List.getD_eq_getElem?_getD]
 cases rv with
 | tmp i =>
  simp only [zjw, z5z, Option.some.injEq] at h;subst h;exact ⟨_, rfl, by rw [hget]; exact zch r.tr i⟩
 | cell b ty =>
  simp only [zjw, z5z] at h
  split at h
  ·rename_i ti ht;have hb := zch r.tr b;obtain ⟨x, h1, h2⟩ := zoc (P := P) c ht hb h hp;refine ⟨x, ?_, h2⟩;show (do loadVar ty (← asAddr (a.tmps.getD b undef))).run P w = .ok x w
   rw [hget];have : ∃ ad, a.tmps.toList.getD b undef = .pointer (some ad) := by
    unfold zea at h;cases hq : t.getD b .any <;> rw [hq] at hb h <;> simp [zg3, zdj] at h
    ·obtain ⟨b', _, hx⟩ := z4a.1 hb; exact ⟨_, hx⟩
    ·obtain ⟨b', _, _, hx⟩ := zg6.1 hb; exact ⟨_, hx⟩
    ·obtain ⟨_, _, b', o, hx, _⟩ := z6i.1 hb; exact ⟨_, hx⟩
    ·obtain ⟨_, _, _, b', o, hx, _⟩ := zfb.1 hb; exact ⟨_, hx⟩
   obtain ⟨ad, hx⟩ := this;rw [hx] at h1 ⊢;simp only [Instr.loadAt, Instr.sureAddr, Sem.run_bind, Sem.run_pure, Result.andThen_ok] at h1;simp [asAddr, h1]
  ·simp at h
theorem zfj (c : Conc G.g ρ I H w) {t : List AV} {a : Act} (r : RelT ρ I w t a) : ∀ {rs : List ResultVar} {p : Bool × List AV}, z7d G ⟨t, H⟩ rs = some p → p.1 = true →
  ∃ xs, (rs.mapM (fun rv : ResultVar => (match rv with | .tmp t => (pure (a.tmps.getD t undef) : Sem Value) | .cell b t => do loadVar t (← asAddr (a.tmps.getD b undef))))).run P w = .ok xs w ∧ RV ρ I w p.2 xs
 | [], p, h, _ => by
  simp only [z7d, Option.some.injEq] at h;subst h;exact ⟨[], by simp, by simp [RV]⟩
 | rv :: rs, p, h, hp => by
  simp only [z7d] at h
  split at h
  ·rename_i c1 v h1
   split at h
   ·rename_i d l h2;simp only [Option.some.injEq] at h;subst h;simp only [Bool.and_eq_true] at hp;obtain ⟨x, k1, k2⟩ := zrt c r h1 hp.1;obtain ⟨xs, k3, k4⟩ := zfj c r h2 hp.2;refine ⟨x :: xs, ?_, zr.2 ⟨x, xs, rfl, k2, k4⟩⟩;rw [List.mapM_cons];simp only [Sem.run_bind, k1, Result.andThen_ok, k3, Sem.run_pure]
   ·simp at h
  ·simp at h
def resF (tmps : Array Value) : ResultVar → Sem Value
 | .tmp t => pure (tmps.getD t undef)
 | .cell b t => do loadVar t (← asAddr (tmps.getD b undef))
theorem z116 (fn : Func) (tmps : Array Value) : results fn tmps = (fn.results.mapM (resF tmps) >>= fun vs => pure (if h : vs.size = 1 then vs[0] else .tuple vs)) := rfl
theorem zs6 (c : Conc G.g ρ I H w) {t : List AV} {a : Act} (r : RelT ρ I w t a) {fn : Func} {p : Bool × List AV} (h : z7d G ⟨t, H⟩ fn.results.toList = some p) (hp : p.1 = true) :
  ∃ x, (results fn a.tmps).run P w = .ok x w ∧ rel ρ I w (tupA p.2) x := by
 obtain ⟨xs, h1, h2⟩ := zfj c r h hp;have h1' : (fn.results.toList.mapM (resF a.tmps)).run P w = .ok xs w := h1;have hm : (fn.results.mapM (resF a.tmps)).run P w = .ok xs.toArray w := by
  rw [← Array.toArray_toList (xs := fn.results), List.mapM_toArray];simp only [Sem.run_map, h1', Result.andThen_ok]
 rw [z116];simp only [Sem.run_bind, hm, Result.andThen_ok, Sem.run_pure];have hlen := zf7 h2
 by_cases e : xs.length = 1
 ·match xs, e, h2 with
  | [x], _, h2 =>
   match hp2 : p.2, h2 with
   | [v], h2 =>
    obtain ⟨y, ys, k1, k2, _⟩ := zr.1 h2;simp only [List.cons.injEq] at k1;obtain ⟨rfl, _⟩ := k1;exact ⟨x, by simp, k2⟩
   | [], h2 => simp [RV] at h2
   | _ :: _ :: _, h2 => have := zf7 h2; simp at this
 ·refine ⟨.tuple xs.toArray, by simp [e], ?_⟩
  match hp2 : p.2, h2 with
  | [v], h2 => have := zf7 h2; simp at this; omega
  | [], h2 => exact z49.2 ⟨_, rfl, by simpa using h2⟩
  | _ :: _ :: _, h2 => exact z49.2 ⟨_, rfl, by simpa using h2⟩
end
end
noncomputable section
mutual
def flA : AV → List AV
 | .agg l => flL l
 | a => [a]
def flL : List AV → List AV
 | [] => []
 | a :: as => flA a ++ flL as
end
def eqF (f f' : List (Nat × Nat)) : Bool := match f, f' with
 | [], [] => true
 | (a, b) :: r, (c, d) :: r' => ((a == c) && (b == d)) && eqF r r'
 | _, _ => false
theorem zd5 : ∀ {f f' : List (Nat × Nat)}, eqF f f' = true → f = f'
 | [], [], _ => rfl
 | (a, b) :: r, (c, d) :: r', h => by
  simp only [eqF, Bool.and_eq_true, beq_iff_eq] at h;obtain ⟨⟨rfl, rfl⟩, h⟩ := h;rw [zd5 h]
 | [], _ :: _, h => by simp [eqF] at h
 | _ :: _, [], h => by simp [eqF] at h
theorem z3b {ρ : Rho} {I : Imm} {w : World} {a : AV} {xs : List Value} : RL ρ I w [a] xs ↔ R ρ I w a xs := by
 constructor
 ·rintro ⟨ys, zs, rfl, h1, h2⟩;cases h2;simpa using h1
 ·exact fun h => ⟨xs, [], by simp, h, rfl⟩
theorem ztl {ρ : Rho} {I : Imm} {w : World} : ∀ {l l' : List AV} {xs : List Value}, RL ρ I w (l ++ l') xs ↔ ∃ ys zs, xs = ys ++ zs ∧ RL ρ I w l ys ∧ RL ρ I w l' zs
 | [], l', xs => by
  constructor
  ·exact fun h => ⟨[], xs, rfl, rfl, h⟩
  ·rintro ⟨ys, zs, rfl, h1, h2⟩;cases h1;exact h2
 | a :: as, l', xs => by
  constructor
  ·rintro ⟨ys, zs, rfl, h1, h2⟩;obtain ⟨ys', zs', rfl, h3, h4⟩ := ztl.1 h2;exact ⟨ys ++ ys', zs', by simp, ⟨ys, ys', rfl, h1, h3⟩, h4⟩
  ·rintro ⟨ys, zs, rfl, ⟨ys1, ys2, rfl, h1, h2⟩, h3⟩;exact ⟨ys1, ys2 ++ zs, by simp, h1, ztl.2 ⟨ys2, zs, rfl, h2, h3⟩⟩
section fl
variable {ρ : Rho} {I : Imm} {w : World}
mutual
theorem R_fl : ∀ (a : AV) (xs : List Value), R ρ I w a xs ↔ RL ρ I w (flA a) xs
 | .agg l, xs => z7s l xs
 | .any, xs => z3b.symm
 | .raw _, xs => z3b.symm
 | .int _ _, xs => z3b.symm
 | .u8 _, xs => z3b.symm
 | .u32 _, xs => z3b.symm
 | .u64 _, xs => z3b.symm
 | .bool _, xs => z3b.symm
 | .str _, xs => z3b.symm
 | .b8 _ _, xs => z3b.symm
 | .w32 _ _, xs => z3b.symm
 | .w64 _ _, xs => z3b.symm
 | .n64 _ _, xs => z3b.symm
 | .ptr _ _, xs => z3b.symm
 | .pix _ _ _ _, xs => z3b.symm
 | .sl _ _ _ _, xs => z3b.symm
 | .vec8 _ _, xs => z3b.symm
 | .vec _ _ _, xs => z3b.symm
 | .vecr _ _ _ _, xs => z3b.symm
 | .slv _ _ _ _, xs => z3b.symm
 | .vp _ _, xs => z3b.symm
 | .vpx _ _ _ _, xs => z3b.symm
 | .fn _ _ _, xs => z3b.symm
 | .tup _, xs => z3b.symm
theorem z7s : ∀ (l : List AV) (xs : List Value), RL ρ I w l xs ↔ RL ρ I w (flL l) xs
 | [], _ => Iff.rfl
 | a :: as, xs => by
  show RL ρ I w (a :: as) xs ↔ RL ρ I w (flA a ++ flL as) xs;rw [ztl];constructor
  ·rintro ⟨ys, zs, h0, h1, h2⟩;exact ⟨ys, zs, h0, (R_fl a ys).1 h1, (z7s as zs).1 h2⟩
  ·rintro ⟨ys, zs, h0, h1, h2⟩;exact ⟨ys, zs, h0, (R_fl a ys).2 h1, (z7s as zs).2 h2⟩
end
end fl
def leRF (c d : List AV) : Prop := okL d = true ∧ ∀ (ρ : Rho) (I : Imm) (w : World) (vs : List Value), RL ρ I w c vs → RL ρ I w d vs
def leR : List AV → List AV → Prop := (zf leRF).val
theorem ztf (c d : List AV) : leR c d = leRF c d := by rw [leR, (zf leRF).property]
theorem leR.mk {c d : List AV} (h : okL d = true) (h2 : ∀ (ρ : Rho) (I : Imm) (w : World) (vs : List Value), RL ρ I w c vs → RL ρ I w d vs) : leR c d := by rw [ztf]; exact ⟨h, h2⟩
theorem leR.ok {c d : List AV} (h : leR c d) : okL d = true := by rw [ztf] at h; exact h.1
theorem leR.rl {c d : List AV} (h : leR c d) : ∀ (ρ : Rho) (I : Imm) (w : World) (vs : List Value), RL ρ I w c vs → RL ρ I w d vs := by rw [ztf] at h; exact h.2
theorem leR.refl {c : List AV} (h : okL c = true) : leR c c := leR.mk h fun _ _ _ _ r => r
theorem leR.of_eq {c d : List AV} (h : okL d = true) (e : c = d) : leR c d := e ▸ leR.refl (e ▸ h)
theorem leR.trans {a b c : List AV} (h : leR a b) (g : leR b c) : leR a c := leR.mk g.ok fun ρ I w vs r => g.rl ρ I w vs (h.rl ρ I w vs r)
def z1k6 : AV → Option (Option Nat)
 | .slv id _ _ _ => some (some id)
 | .sl id _ _ _ => some (some id)
 | .ptr id _ => some (some id)
 | .vec8 true l => bif l.isEmpty then some none else none
 | .vec true _ l => bif l.isEmpty then some none else none
 | _ => none
def z147 : List AV → Option (List (Option Nat))
 | [] => some []
 | v :: vs => match z1k6 v, z147 vs with
  | some r, some rs => some (r :: rs)
  | _, _ => none
def z9c (n : Nat) (srcs : List (Option Nat)) (j : Nat) : Option Nat := bif ltB j n then some j else (srcs.getD (j - n) none)
def isO (i : Nat) : Option Nat → Bool
 | some j => i == j
 | none => false
def z9s : AV → Bool
 | .vec8 true l => l.isEmpty
 | .vec true _ l => l.isEmpty
 | _ => false
def zp9 (n : Nat) (srcs : List (Option Nat)) (a b : AV) (k : Prop) : Prop :=
 match b with
 | .any => cnd (szA a == 1) k
 | .ptr j p => match a with
  | .ptr i o => cnd (isO i (z9c n srcs j) && (o == p)) k
  | _ => False
 | .sl j p c m => match a with
  | .sl i o c' m' => cnd (isO i (z9c n srcs j) && ((o == p) && (c' == c))) (m' = m ∧ k)
  | a => cnd (z9s a) (0 = m ∧ k)
 | .slv j c m g => match a with
  | .slv i c' m' f => cnd (isO i (z9c n srcs j) && (c' == c)) (m' = m ∧ (∀ x, x < m → leR (f x) (g x)) ∧ k)
  | a => cnd (z9s a) (0 = m ∧ k)
 | .vecr full c m g => match a with
  | .vecr full' c' m' f => cnd ((full' || !full) && (c' == c)) (m' = m ∧ (∀ x, x < m → leR (f x) (g x)) ∧ k)
  | .slv _ c' m' f => cnd (!full && (c' == c)) (m' = m ∧ (∀ x, x < m → leR (f x) (g x)) ∧ k)
  | a => cnd (z9s a) (0 = m ∧ k)
 | .vec8 full l => match a with
  | .vec8 full' l' => cnd (full' || !full) (l' = l ∧ k)
  | _ => False
 | b => cnd (z35 n b) (a = b ∧ k)
def z9u (n : Nat) (srcs : List (Option Nat)) : List AV → List AV → Prop → Prop
 | [], [], k => k
 | a :: as, b :: bs, k => zp9 n srcs a b (z9u n srcs as bs k)
 | _, _, _ => False
def leAM (n : Nat) (srcs : List (Option Nat)) (a b : AV) (k : Prop) : Prop :=
 match b with
 | .any => k
 | .agg l' => match a with
  | .agg l => z9u n srcs (flL l) (flL l') k
  | a => cnd (z2s n l') (a = .agg l' ∧ k)
 | b => zp9 n srcs a b k
def leTM (n : Nat) (srcs : List (Option Nat)) : List AV → List AV → Prop → Prop
 | [], [], k => k
 | a :: as, b :: bs, k => leAM n srcs a b (leTM n srcs as bs k)
 | _, _, _ => False
def leEM (n : Nat) (srcs : List (Option Nat)) (e e' : Ent) (k : Prop) : Prop :=
 match e' with
 | .dead => k
 | .blk c' f' => match e with
  | .blk c f => cnd (eqF f f') (z9u n srcs (flL c) (flL c') k)
  | _ => False
 | .grow8 l' f' => match e with
  | .grow8 l f => cnd (eqF f f') (l = l' ∧ k)
  | _ => False
 | .grow n' r' f' => match e with
  | .grow n2 r f => cnd (((n2 == n') && eqF f f') && z2s n r') (r = r' ∧ k)
  | _ => False
 | .tail k' n' => match e with
  | .tail k2 n2 => cnd (k2 == k') (n2 = n' ∧ k)
  | _ => False
 | .res => False
def leHM (n : Nat) (srcs : List (Option Nat)) : Heap → Heap → Prop → Prop
 | [], [], k => k
 | a :: as, b :: bs, k => leEM n srcs a b (leHM n srcs as bs k)
 | _, _, _ => False
def zj8 : Ent → Bool
 | .dead => true
 | .grow8 l f => l.isEmpty && f.isEmpty
 | .grow _ r f => r.isEmpty && f.isEmpty
 | .tail _ n => n == 0
 | _ => false
def zw7 (n : Nat) (srcs : List (Option Nat)) (H : Heap) : List (Option Nat) → List Ent → Prop → Prop
 | [], [], k => k
 | s :: ss, e :: es, k => match s with
  | some i => cnd (ltB i H.length) (leEM n srcs (H.getD i .dead) e (zw7 n srcs H ss es k))
  | none => cnd (zj8 e) (zw7 n srcs H ss es k)
 | _, _, _ => False
def apart (n : Nat) (H' : Heap) : List (Option Nat) → Bool
 | [] => true
 | none :: ss => apart n H' ss
 | some i :: ss => ((leB n i || !(H'.getD i .dead).live) && !(ss.contains (some i))) && apart n H' ss
def leM (n : Nat) (vs : List AV) (s : St) (T : List AV) (H' : Heap) (X : List Ent) : Prop :=
 match z147 vs with
 | some srcs => cnd ((srcs.length == X.length) && apart n H' srcs) (leTM n srcs s.t T (leHM n srcs (s.H.take n) H' (zw7 n srcs s.H srcs X True)))
 | none => False
section
variable {ρ ρ' : Rho} {I : Imm} {w : World}
def z8a (n : Nat) (srcs : List (Option Nat)) (ρ : Rho) : Rho := fun j => if j < n then ρ j else match srcs[j - n]? with
 | some (some i) => ρ i
 | some none => some none
 | none => none
theorem z17l {n : Nat} {srcs : List (Option Nat)} {ρ : Rho} {i j : Nat} (h : isO i (z9c n srcs j) = true) : z8a n srcs ρ j = ρ i := by
 unfold z9c at h;unfold z8a
 by_cases hj : j < n
 ·rw [z1z.2 hj] at h;have : i = j := by simpa [isO] using h
  simp [hj, this]
 ·have hb : ltB j n = false := by
   cases hb : ltB j n with
   | true => exact absurd (z1z.1 hb) hj
   | false => rfl
  rw [hb] at h;simp only [cond_false] at h;cases hs : srcs[j - n]? with
  | none => rw [List.getD_eq_getElem?_getD, hs] at h; simp [isO] at h
  | some r =>
   rw [List.getD_eq_getElem?_getD, hs] at h;cases r with
   | none => simp [isO] at h
   | some i' => have : i = i' := by simpa [isO] using h
                simp [hj, this]
theorem z194 {n : Nat} {srcs : List (Option Nat)} {ρ : Rho} : ∀ i, i < n → z8a n srcs ρ i = ρ i := fun i h => by simp [z8a, h]
theorem zgo {a : AV} {v : Value} (h : z9s a = true) (r : rel ρ I w a v) : ∃ x, v = .slice x 0 0 := by
 unfold z9s at h
 split at h
 ·rename_i l;have hl : l = [] := by simpa using h
  subst hl;obtain ⟨x, cap, h1, _, h3, _⟩ := z22.1 r;have := h3 rfl;simp at this;exact ⟨x, by rw [h1, this]; rfl⟩
 ·rename_i l;have hl : l = [] := by simpa using h
  subst hl;obtain ⟨_, vs, _, x, cap, h1, _, h3, _⟩ := z2h.1 r;have := h3 rfl;simp at this;exact ⟨x, by rw [h1, this]; rfl⟩
 ·simp at h
theorem zt7 {a : AV} (h : z9s a = true) {xs : List Value} (r : R ρ I w a xs) : ∃ x, xs = [.slice x 0 0] := by
 unfold z9s at h
 split at h
 ·rename_i l;obtain ⟨v, h0, _⟩ := id r;subst h0;obtain ⟨x, hx⟩ := zgo (ρ := ρ) (I := I) (w := w) (a := .vec8 true l) h r;exact ⟨x, by rw [hx]⟩
 ·rename_i k l;obtain ⟨v, h0, _⟩ := id r;subst h0;obtain ⟨x, hx⟩ := zgo (ρ := ρ) (I := I) (w := w) (a := .vec true k l) h r;exact ⟨x, by rw [hx]⟩
 ·simp at h
theorem zkp {ρ' : Rho} {full full' : Bool} {c m : Nat} {f g : Nat → List AV} {v : Value} (h2 : ∀ x, x < m → leR (f x) (g x)) (hf : full = true → full' = true) (r : rel ρ I w (.vecr full' c m f) v) : rel ρ' I w (.vecr full c m g) v := by
 obtain ⟨k3, vs, k4, k5, a, cap, k6, k7, k8, k9⟩ := z1j.1 r;exact z1j.2 ⟨fun i hi => (h2 i hi).ok, vs, k4, fun i hi =>
  z3k (n := 0) (fun _ h => by omega) _ _ (z2t _ (z3u (h2 i hi).ok) 0) ((h2 i hi).rl _ _ _ _ (k5 i hi)), a, cap, k6, k7, fun h => k8 (hf h), k9⟩
theorem zlj {full : Bool} {c : Nat} {g : Nat → List AV} {x : Option Addr} : rel ρ I w (.vecr full c 0 g) (.slice x 0 0) :=
 z1j.2 ⟨fun i h => by omega, [], by simp, fun i h => by omega, x, 0, rfl, Nat.le_refl _, fun _ => rfl, .inl rfl⟩
theorem zna {n : Nat} {srcs : List (Option Nat)} (hρ : ∀ i j, isO i (z9c n srcs j) = true → ρ' j = ρ i) (hlow : ∀ i, i < n → ρ' i = ρ i) {a b : AV} {k : Prop} (h : zp9 n srcs a b k) :
  (∀ xs, R ρ I w a xs → R ρ' I w b xs) ∧ k := by
 unfold zp9 at h
 split at h
 ·obtain ⟨h1, h2⟩ := zd.1 h;refine ⟨fun xs r => ?_, h2⟩
  have := z3o _ _ r;rw [beq_iff_eq] at h1;rw [h1] at this
  match xs, this with
  | [y], _ => exact ⟨y, rfl⟩
 ·split at h
  ·obtain ⟨h1, h2⟩ := zd.1 h;simp only [Bool.and_eq_true, beq_iff_eq] at h1;obtain ⟨h1, rfl⟩ := h1;refine ⟨?_, h2⟩;rintro xs ⟨v, rfl, b, q1, q2⟩;exact ⟨v, rfl, b, by rw [hρ _ _ h1]; exact q1, q2⟩
  ·exact h.elim
 ·split at h
  ·obtain ⟨h1, rfl, h2⟩ := zd.1 h;simp only [Bool.and_eq_true, beq_iff_eq] at h1;obtain ⟨h1, rfl, rfl⟩ := h1;refine ⟨?_, h2⟩;rintro xs ⟨v, rfl, q⟩;refine ⟨v, rfl, ?_⟩;rcases q with ⟨b, cap, q1, q2⟩ | q
   ·exact .inl ⟨b, cap, by rw [hρ _ _ h1]; exact q1, q2⟩
   ·exact .inr q
  ·obtain ⟨h1, rfl, h2⟩ := zd.1 h;refine ⟨fun xs r => ?_, h2⟩
   obtain ⟨x, rfl⟩ := zt7 h1 r;exact ⟨_, rfl, .inr ⟨rfl, x, rfl⟩⟩
 ·split at h
  ·obtain ⟨h1, rfl, h2, h3⟩ := zd.1 h;simp only [Bool.and_eq_true, beq_iff_eq] at h1;obtain ⟨h1, rfl⟩ := h1;refine ⟨?_, h3⟩;rintro xs ⟨v, rfl, r⟩;obtain ⟨k1, k2⟩ := z2r.1 (show rel ρ I w (.slv _ _ _ _) v from ⟨v, rfl, r⟩)
   have := z2r.2 ⟨zkp (ρ' := ρ') h2 (fun h => h) k1, (by
    rcases k2 with ⟨b, cap, q1, q2⟩ | q
    ·exact .inl ⟨b, cap, by rw [hρ _ _ h1]; exact q1, q2⟩
    ·exact .inr q : slR ρ' w _ 0 _ _ v)⟩
   exact this
  ·obtain ⟨h1, rfl, h2⟩ := zd.1 h;refine ⟨fun xs r => ?_, h2⟩
   obtain ⟨x, rfl⟩ := zt7 h1 r;exact z2r.2 ⟨zlj, .inr ⟨rfl, x, rfl⟩⟩
 ·split at h
  ·obtain ⟨h1, rfl, h2, h3⟩ := zd.1 h;simp only [Bool.and_eq_true, beq_iff_eq, Bool.or_eq_true, Bool.not_eq_true'] at h1;obtain ⟨h1, rfl⟩ := h1;refine ⟨?_, h3⟩;rintro xs ⟨v, rfl, r⟩;have := zkp (ρ' := ρ') h2 (fun hf => h1.resolve_right fun h => Bool.noConfusion (hf.symm.trans h)) (show rel ρ I w (.vecr _ _ _ _) v from ⟨v, rfl, r⟩)
   exact this
  ·obtain ⟨h1, rfl, h2, h3⟩ := zd.1 h;simp only [Bool.and_eq_true, beq_iff_eq, Bool.not_eq_true'] at h1;obtain ⟨rfl, rfl⟩ := h1;refine ⟨?_, h3⟩;rintro xs ⟨v, rfl, r⟩;have := zkp (ρ' := ρ') h2 (fun h => h) (z2r.1 (show rel ρ I w (.slv _ _ _ _) v from ⟨v, rfl, r⟩)).1
   exact this
  ·obtain ⟨h1, rfl, h2⟩ := zd.1 h;refine ⟨fun xs r => ?_, h2⟩
   obtain ⟨x, rfl⟩ := zt7 h1 r;exact zlj
 ·split at h
  ·obtain ⟨h1, rfl, h2⟩ := zd.1 h;refine ⟨?_, h2⟩;rintro xs ⟨v, rfl, a, cap, k6, k7, k8, k9⟩;refine ⟨v, rfl, a, cap, k6, k7, fun hf => k8 ?_, k9⟩
   rw [hf] at h1;simpa using h1
  ·exact h.elim
 ·obtain ⟨h1, rfl, h2⟩ := zd.1 h;exact ⟨fun xs r => z2y hlow _ xs h1 r, h2⟩
theorem z8s {a : AV} {as bs : List AV} (ha : okL [a] = true) (hr : leR as bs) : leR (a :: as) (a :: bs) := by
 refine leR.mk ?_ fun ρ I w vs r => ?_
 ·have h1 := z3u hr.ok; have h2 := zg2 hr.ok
  have h3 := z3u ha; have h4 := zg2 ha
  simp only [zw, z7e, Bool.and_true] at h3 h4;simp only [okL, zw, z7e, h1, h2, h3, h4, Bool.and_self]
 ·obtain ⟨ys, zs, rfl, q, r2⟩ := z12.1 r;exact z12.2 ⟨ys, zs, rfl, q, hr.rl _ _ _ _ r2⟩
theorem zkr : leR [] [] := leR.refl rfl
theorem z8l {a : AV} (ha : a ≠ .any) {v : Value} {Ra : List Value → Prop} : valOf a v Ra ↔ if z1w a then ∃ cs : Array Value, v = .agg cs ∧ Ra cs.toList else Ra [v] := by
 cases a <;> first | exact absurd rfl ha | exact Iff.rfl
theorem z15b {a b : AV} (hag : z1w a = z1w b) (ha : a = .any → b = .any) (h : ∀ xs, R ρ I w a xs → R ρ' I w b xs) {v : Value} (r : rel ρ I w a v) : rel ρ' I w b v := by
 by_cases hb : b = .any
 ·subst hb; exact zf9
 ·have ha' : a ≠ .any := fun e => hb (ha e)
  have r1 := (z8l ha').1 r;refine (z8l hb).2 ?_;rw [← hag]
  split at r1
  ·rename_i hg;rw [if_pos hg];obtain ⟨cs, h1, h2⟩ := r1;exact ⟨cs, h1, h _ h2⟩
  ·rename_i hg;rw [if_neg hg];exact h _ r1
theorem zp4 {a : AV} (h : z9s a = true) : z1w a = false ∧ a ≠ .any := by
 unfold z9s at h
 split at h
 ·exact ⟨rfl, by simp⟩
 ·exact ⟨rfl, by simp⟩
 ·cases h
theorem z1eh {n : Nat} {srcs : List (Option Nat)} {a b : AV} {k : Prop} (hb : b ≠ .any) (h : zp9 n srcs a b k) : z1w a = z1w b ∧ (a = .any → b = .any) := by
 unfold zp9 at h
 split at h
 ·exact absurd rfl hb
 ·split at h
  ·exact ⟨rfl, by simp⟩
  ·exact h.elim
 ·split at h
  ·exact ⟨rfl, by simp⟩
  ·obtain ⟨q1, q2⟩ := zp4 (zd.1 h).1;exact ⟨q1, fun e => absurd e q2⟩
 ·split at h
  ·exact ⟨rfl, by simp⟩
  ·obtain ⟨q1, q2⟩ := zp4 (zd.1 h).1;exact ⟨q1, fun e => absurd e q2⟩
 ·split at h
  ·exact ⟨rfl, by simp⟩
  ·exact ⟨rfl, by simp⟩
  ·obtain ⟨q1, q2⟩ := zp4 (zd.1 h).1;exact ⟨q1, fun e => absurd e q2⟩
 ·split at h
  ·exact ⟨rfl, by simp⟩
  ·exact h.elim
 ·obtain ⟨_, rfl, _⟩ := zd.1 h;exact ⟨rfl, fun e => e⟩
theorem zc6 {n : Nat} {srcs : List (Option Nat)} (hρ : ∀ i j, isO i (z9c n srcs j) = true → ρ' j = ρ i) (hlow : ∀ i, i < n → ρ' i = ρ i) : ∀ {c d : List AV} {k : Prop}, z9u n srcs c d k → (∀ xs, RL ρ I w c xs → RL ρ' I w d xs) ∧ k
 | [], [], k, h => ⟨fun _ h => h, h⟩
 | a :: as, b :: bs, k, h => by
  obtain ⟨h1, h2⟩ := zna (I := I) (w := w) hρ hlow (k := z9u n srcs as bs k) h;obtain ⟨h3, h4⟩ := zc6 hρ hlow h2;refine ⟨fun xs r => ?_, h4⟩
  obtain ⟨ys, zs, rfl, k1, k2⟩ := z12.1 r;exact z12.2 ⟨ys, zs, rfl, h1 _ k1, h3 _ k2⟩
 | [], _ :: _, k, h => h.elim
 | _ :: _, [], k, h => h.elim
theorem z135 {n : Nat} {srcs : List (Option Nat)} (hρ : ∀ i j, isO i (z9c n srcs j) = true → ρ' j = ρ i) (hlow : ∀ i, i < n → ρ' i = ρ i) {a b : AV} {k : Prop} (h : leAM n srcs a b k) :
  (∀ v, rel ρ I w a v → rel ρ' I w b v) ∧ k := by
 unfold leAM at h
 split at h
 ·exact ⟨fun _ _ => zf9, h⟩
 ·split at h
  ·obtain ⟨h1, h2⟩ := zc6 (I := I) (w := w) hρ hlow h;refine ⟨fun v r => ?_, h2⟩
   obtain ⟨cs, rfl, r2⟩ := z2w.1 r;exact z2w.2 ⟨cs, rfl, (z7s _ _).2 (h1 _ ((z7s _ _).1 r2))⟩
  ·obtain ⟨h1, rfl, h2⟩ := zd.1 h;exact ⟨fun v r => zm0 hlow (by simpa [z35] using h1) r, h2⟩
 ·rename_i hany hagg;obtain ⟨h1, h2⟩ := zna (I := I) (w := w) hρ hlow h;obtain ⟨q1, q2⟩ := z1eh hany h;exact ⟨fun v r => z15b q1 q2 h1 r, h2⟩
theorem zml {n : Nat} {srcs : List (Option Nat)} (hρ : ∀ i j, isO i (z9c n srcs j) = true → ρ' j = ρ i) (hlow : ∀ i, i < n → ρ' i = ρ i) : ∀ {t T : List AV} {k : Prop}, leTM n srcs t T k → (∀ vs, RV ρ I w t vs → RV ρ' I w T vs) ∧ k
 | [], [], k, h => ⟨fun _ h => h, h⟩
 | a :: as, b :: bs, k, h => by
  obtain ⟨h1, h2⟩ := z135 (I := I) (w := w) hρ hlow (k := leTM n srcs as bs k) h;obtain ⟨h3, h4⟩ := zml hρ hlow h2;refine ⟨fun vs r => ?_, h4⟩
  obtain ⟨x, xs, rfl, k1, k2⟩ := zr.1 r;exact zr.2 ⟨x, xs, rfl, h1 _ k1, h3 _ k2⟩
 | [], _ :: _, k, h => h.elim
 | _ :: _, [], k, h => h.elim
end
def znt (n : Nat) (srcs : List (Option Nat)) (e e' : Ent) : Prop :=
 e' = .dead ∨ (∃ c c' f, e = .blk c f ∧ e' = .blk c' f ∧ ∀ (ρ ρ' : Rho) I w, (∀ i j, isO i (z9c n srcs j) = true → ρ' j = ρ i) → (∀ i, i < n → ρ' i = ρ i) → ∀ xs, RL ρ I w c xs → RL ρ' I w c' xs) ∨ (e = e' ∧ e'.grows = true ∧ z6h n e' = true)
theorem znm {n : Nat} {srcs : List (Option Nat)} {e e' : Ent} {k : Prop} (h : leEM n srcs e e' k) : znt n srcs e e' ∧ k := by
 unfold leEM at h
 split at h
 ·exact ⟨.inl rfl, h⟩
 ·split at h
  ·obtain ⟨h1, h2⟩ := zd.1 h;cases zd5 h1;have hk : k := (zc6 (ρ := fun _ => none) (ρ' := fun _ => none) (I := fun _ _ => True) (w := default) (fun _ _ _ => rfl) (fun _ _ => rfl) h2).2
   exact ⟨.inr (.inl ⟨_, _, _, rfl, rfl, fun ρ ρ' I w q1 q2 xs r => (z7s _ _).2 ((zc6 (I := I) (w := w) q1 q2 h2).1 xs ((z7s _ _).1 r))⟩), hk⟩
  ·exact h.elim
 ·split at h
  ·obtain ⟨h1, rfl, h2⟩ := zd.1 h;cases zd5 h1;exact ⟨.inr (.inr ⟨rfl, rfl, rfl⟩), h2⟩
  ·exact h.elim
 ·split at h
  ·obtain ⟨h1, rfl, h2⟩ := zd.1 h;simp only [Bool.and_eq_true, beq_iff_eq] at h1;obtain ⟨⟨rfl, h1⟩, h3⟩ := h1;cases zd5 h1;exact ⟨.inr (.inr ⟨rfl, rfl, h3⟩), h2⟩
  ·exact h.elim
 ·split at h
  ·obtain ⟨h1, rfl, h2⟩ := zd.1 h;simp only [beq_iff_eq] at h1;subst h1;exact ⟨.inr (.inr ⟨rfl, rfl, rfl⟩), h2⟩
  ·exact h.elim
 ·exact h.elim
theorem znj {n : Nat} {srcs : List (Option Nat)} : ∀ {H H' : Heap} {k : Prop}, leHM n srcs H H' k → (H.length = H'.length ∧ ∀ (i : Nat) (e e' : Ent), H[i]? = some e → H'[i]? = some e' → znt n srcs e e') ∧ k
 | [], [], k, h => ⟨⟨rfl, fun _ _ _ h => by simp at h⟩, h⟩
 | a :: as, b :: bs, k, h => by
  obtain ⟨h1, h2⟩ := znm h;obtain ⟨⟨h3, h5⟩, h4⟩ := znj h2;refine ⟨⟨by simp [h3], fun i e e' g g' => ?_⟩, h4⟩
  cases i with
  | zero => simp at g g'; subst g; subst g'; exact h1
  | succ i => exact h5 i e e' (by simpa using g) (by simpa using g')
 | [], _ :: _, k, h => h.elim
 | _ :: _, [], k, h => h.elim
theorem zgi {n : Nat} {srcs : List (Option Nat)} {H : Heap} : ∀ {ss : List (Option Nat)} {X : List Ent} {k : Prop}, zw7 n srcs H ss X k →
  (∀ (j : Nat) (e' : Ent), X[j]? = some e' → (∃ i e, ss[j]? = some (some i) ∧ H[i]? = some e ∧ znt n srcs e e') ∨ (ss[j]? = some none ∧ zj8 e' = true)) ∧ k
 | [], [], k, h => ⟨fun _ _ h => by simp at h, h⟩
 | s :: ss, e :: es, k, h => by
  unfold zw7 at h
  split at h
  ·rename_i i;obtain ⟨h1, h2⟩ := zd.1 h;obtain ⟨h3, h4⟩ := znm h2;obtain ⟨h5, h6⟩ := zgi h4;refine ⟨fun j e' hj => ?_, h6⟩
   cases j with
   | zero =>
    simp at hj; subst hj
    have hlt := z1z.1 h1;refine .inl ⟨i, H[i], rfl, by simp [hlt], ?_⟩
    rw [List.getD_eq_getElem?_getD, List.getElem?_eq_getElem hlt] at h3;exact h3
   | succ j => exact h5 j e' (by simpa using hj)
  ·obtain ⟨h1, h2⟩ := zd.1 h;obtain ⟨h5, h6⟩ := zgi h2;refine ⟨fun j e' hj => ?_, h6⟩
   cases j with
   | zero => simp at hj; subst hj; exact .inr ⟨rfl, h1⟩
   | succ j => exact h5 j e' (by simpa using hj)
 | [], _ :: _, k, h => h.elim
 | _ :: _, [], k, h => by cases ‹Option Nat› <;> exact h.elim
theorem apart_spec {n : Nat} {H' : Heap} : ∀ {ss : List (Option Nat)}, apart n H' ss = true → (∀ (j i : Nat), ss[j]? = some (some i) → n ≤ i ∨ (H'.getD i .dead).live = false) ∧ (∀ (j j' i : Nat), ss[j]? = some (some i) → ss[j']? = some (some i) → j = j')
 | [], _ => ⟨fun _ _ h => by simp at h, fun _ _ _ h => by simp at h⟩
 | none :: ss, h => by
  obtain ⟨h1, h2⟩ := apart_spec (ss := ss) h;refine ⟨fun j i q => ?_, fun j j' i q q' => ?_⟩
  ·cases j with
   | zero => simp at q
   | succ j => exact h1 j i (by simpa using q)
  ·cases j with
   | zero => simp at q
   | succ j => cases j' with
    | zero => simp at q'
    | succ j' => rw [h2 j j' i (by simpa using q) (by simpa using q')]
 | some i0 :: ss, h => by
  simp only [apart, Bool.and_eq_true, Bool.or_eq_true, Bool.not_eq_true'] at h;obtain ⟨⟨ha, hb⟩, hc⟩ := h;obtain ⟨h1, h2⟩ := apart_spec (ss := ss) hc;have hno : ∀ j, ss[j]? ≠ some (some i0) := fun j q => by
   have := List.mem_of_getElem? q;rw [List.contains_eq_mem] at hb;simp at hb;exact hb this
  refine ⟨fun j i q => ?_, fun j j' i q q' => ?_⟩
  ·cases j with
   | zero =>
    simp at q; subst q
    rcases ha with ha | ha
    ·exact .inl (zh.1 ha)
    ·exact .inr ha
   | succ j => exact h1 j i (by simpa using q)
  ·cases j with
   | zero =>
    simp at q; subst q
    cases j' with
    | zero => rfl
    | succ j' => exact absurd (by simpa using q') (hno j')
   | succ j => cases j' with
    | zero => simp at q'; subst q'; exact absurd (by simpa using q) (hno j)
    | succ j' => rw [h2 j j' i (by simpa using q) (by simpa using q')]
section
variable {P : Program} {G : Env P} {ρ : Rho} {I : Imm} {w : World}
set_option maxHeartbeats 1000000 in
theorem zdt {n : Nat} {vs : List AV} {s : St} {T : List AV} {H' : Heap} {X : List Ent} (h : leM n vs s T H' X) (c : Conc G.g ρ I s.H w) {a : Act} (r : RelT ρ I w s.t a) {ρ0 : Rho} {I0 : Imm} {H0 : Heap} {w0 : World}
  (gd : Good ρ0 I0 H0 w0 ρ I s.H w) (hd : ∀ id, ρ0 id ≠ none → id < n) (hle : H0.length ≤ n) (hl' : H'.length = n) (hn : n ≤ s.H.length) : ∃ ρ', Good ρ0 I0 H0 w0 ρ' I (H' ++ X) w ∧ Conc G.g ρ' I (H' ++ X) w ∧ RelT ρ' I w T a := by
 unfold leM at h
 split at h
 case h_2 => exact h.elim
 rename_i srcs _;obtain ⟨h1, h2⟩ := zd.1 h;simp only [Bool.and_eq_true, beq_iff_eq] at h1;obtain ⟨hlen, hap⟩ := h1;obtain ⟨hap1, hap2⟩ := apart_spec hap;have hmov : ∀ i j, isO i (z9c n srcs j) = true → z8a n srcs ρ j = ρ i := fun i j h => z17l h
 have hlow : ∀ i, i < n → z8a n srcs ρ i = ρ i := z194;obtain ⟨hT, h3⟩ := zml (I := I) (w := w) hmov hlow h2;obtain ⟨⟨_, hH⟩, h4⟩ := znj h3;obtain ⟨hX, _⟩ := zgi h4;have from_ : ∀ (j : Nat) (e' : Ent), (H' ++ X)[j]? = some e' → (∃ i e, s.H[i]? = some e ∧ znt n srcs e e' ∧ z8a n srcs ρ j = ρ i ∧ ((j < n ∧ i = j) ∨ (n ≤ j ∧ srcs[j - n]? = some (some i)))) ∨ (n ≤ j ∧ z8a n srcs ρ j = some none ∧ zj8 e' = true) := by
  intro j e' hj;rcases Nat.lt_or_ge j n with hjn | hjn
  ·rw [List.getElem?_append_left (by omega)] at hj
   have : j < s.H.length := by omega
   exact .inl ⟨j, s.H[j], by simp [this], hH j _ e' (by simp [hjn, this]) hj, hlow j hjn, .inl ⟨hjn, rfl⟩⟩
  ·rw [List.getElem?_append_right (by omega), hl'] at hj
   rcases hX _ _ hj with ⟨i, e, q1, q2, q3⟩ | ⟨q1, q2⟩
   ·exact .inl ⟨i, e, q2, q3, by simp [z8a, Nat.not_lt.2 hjn, q1], .inr ⟨hjn, q1⟩⟩
   ·exact .inr ⟨hjn, by simp [z8a, Nat.not_lt.2 hjn, q1], q2⟩
 have gl : ∀ (e : Ent), e.grows = true → e.live = true := by intro e h; cases e <;> simp_all [Ent.grows, Ent.live]
 have wlive : ∀ {e e' : Ent}, znt n srcs e e' → e'.live = true → e.live = true ∧ e.frz = e'.frz ∧ (e'.grows = true → e = e') := by
  intro e e' hw hl;rcases hw with rfl | ⟨c, c', f, rfl, rfl, _⟩ | ⟨rfl, _⟩
  ·simp [Ent.live] at hl
  ·exact ⟨rfl, rfl, fun h => by simp [Ent.grows] at h⟩
  ·exact ⟨hl, rfl, fun _ => rfl⟩
 have own1 : ∀ (j : Nat) (e' : Ent) (b : Nat), (H' ++ X)[j]? = some e' → e'.live = true → z8a n srcs ρ j = some (some b) → ∃ i e, s.H[i]? = some e ∧ e.live = true ∧ e.frz = e'.frz ∧ ρ i = some (some b) := by
  intro j e' b hj hl hb;rcases from_ j e' hj with ⟨i, e, q1, q2, q3, _⟩ | ⟨_, q2, _⟩
  ·obtain ⟨k1, k2, _⟩ := wlive q2 hl;exact ⟨i, e, q1, k1, k2, by rw [← q3]; exact hb⟩
  ·rw [q2] at hb; simp at hb
 have mutb : ∀ b o, Mut (z8a n srcs ρ) (H' ++ X) b o → Mut ρ s.H b o := by
  rintro b o ⟨j, e', q1, q2, q3, q4⟩;obtain ⟨i, e, k1, k2, k3, k4⟩ := own1 j e' b q1 q2 q3;exact ⟨i, e, k1, k2, k4, k3 ▸ q4⟩
 have ownb : ∀ b, Own (z8a n srcs ρ) (H' ++ X) b → Own ρ s.H b := by
  rintro b ⟨j, e', q1, q2, q3⟩;obtain ⟨i, e, k1, k2, _, k4⟩ := own1 j e' b q1 q2 q3;exact ⟨i, e, k1, k2, k4⟩
 refine ⟨z8a n srcs ρ, ⟨fun id x h => ?_, fun id x h ⟨e, q1, q2⟩ => ?_, by simp; omega, gd.imm, gd.imm', gd.os, gd.tape, gd.out, gd.size, gd.cell, gd.block, gd.bs, fun b o hb h => gd.wrt b o hb (mutb b o h), fun b hb h => gd.own b hb (ownb b h)⟩,
  ⟨?_, ?_, ?_, ?_, ?_, ?_, fun b o h => ⟨(c.imm b o h).1, fun hm => (c.imm b o h).2 (mutb b o hm)⟩, c.glob⟩, hT _ r.tr, r.defers⟩
 ·rw [hlow id (hd id (by simp [h]))]; exact gd.ext id x h
 ·have hid := hd id (by simp [h])
  rcases from_ id e q1 with ⟨i, e0, k1, k2, k3, k4⟩ | ⟨k1, _⟩
  ·rcases k4 with ⟨_, rfl⟩ | ⟨k4, _⟩
   ·obtain ⟨_, _, k5⟩ := wlive k2 (gl e q2);cases k5 q2;exact gd.kp i x h ⟨_, k1, q2⟩
   ·omega
  ·omega
 ·intro id h
  by_cases e : id < n
  ·simp; omega
  ·unfold z8a at h;simp only [e, if_false] at h;have : id - n < srcs.length := by
    rcases Nat.lt_or_ge (id - n) srcs.length with h' | h'
    ·exact h'
    ·rw [List.getElem?_eq_none h'] at h; simp at h
   simp; omega
 ·intro id h;exfalso;rcases from_ id _ h with ⟨i, e, _, q2, _⟩ | ⟨_, _, q⟩
  ·rcases q2 with q2 | ⟨_, _, _, _, q2, _⟩ | ⟨_, q2, _⟩
   ·simp at q2
   ·simp at q2
   ·simp [Ent.grows] at q2
  ·simp [zj8] at q
 ·intro id b h
  by_cases e : id < n
  ·rw [hlow id e] at h; exact c.blt id b h
  ·unfold z8a at h;simp only [e, if_false] at h
   split at h
   ·exact c.blt _ b h
   ·simp at h
   ·simp at h
 ·intro i j b e e' hi l1 hj l2 hbi hbj;rcases from_ i e hi with ⟨i0, e0, q1, q2, q3, q4⟩ | ⟨_, q2, _⟩
  case inr => rw [q2] at hbi; simp at hbi
  rcases from_ j e' hj with ⟨j0, f0, p1, p2, p3, p4⟩ | ⟨_, p2, _⟩
  case inr => rw [p2] at hbj; simp at hbj
  have heq := c.inj i0 j0 b e0 f0 q1 (wlive q2 l1).1 p1 (wlive p2 l2).1 (q3 ▸ hbi) (p3 ▸ hbj);subst heq;have lowlive : ∀ k ek, (H' ++ X)[k]? = some ek → ek.live = true → k < n → (H'.getD k .dead).live = true := by
   intro k ek hk hl hkn;rw [List.getElem?_append_left (by omega)] at hk
   rw [List.getD_eq_getElem?_getD, hk];exact hl
  rcases q4 with ⟨q4, rfl⟩ | ⟨q4, q5⟩
  ·rcases p4 with ⟨p4, rfl⟩ | ⟨p4, p5⟩
   ·rfl
   ·rcases hap1 _ _ p5 with h' | h'
    ·omega
    ·rw [lowlive i0 e hi l1 q4] at h'; simp at h'
  ·rcases p4 with ⟨p4, rfl⟩ | ⟨p4, p5⟩
   ·rcases hap1 _ _ q5 with h' | h'
    ·omega
    ·rw [lowlive i0 e' hj l2 p4] at h'; simp at h'
   ·have := hap2 _ _ _ q5 p5;omega
 ·intro id cs f h;rcases from_ id _ h with ⟨i, e, q1, q2, q3, _⟩ | ⟨_, _, q⟩
  ·rcases q2 with q2 | ⟨c0, c', f0, rfl, q2, q5⟩ | ⟨_, q2, _⟩
   ·simp at q2
   ·simp only [Ent.blk.injEq] at q2;obtain ⟨rfl, rfl⟩ := q2;obtain ⟨b, el, fr, us, p1, p2, p3, p4⟩ := c.blk i c0 f q1;exact ⟨b, el, fr, us, by rw [q3]; exact p1, p2, q5 _ _ _ _ hmov hlow us p3, p4⟩
   ·simp [Ent.grows] at q2
  ·simp [zj8] at q
 ·intro id e h he;rcases from_ id _ h with ⟨i, e0, q1, q2, q3, _⟩ | ⟨_, q2, q⟩
  ·rcases q2 with rfl | ⟨_, _, _, _, rfl, _⟩ | ⟨rfl, q2, q5⟩
   ·simp [Ent.grows] at he
   ·simp [Ent.grows] at he
   ·obtain ⟨p0, p⟩ := c.grow i e0 q1 he;refine ⟨p0, ?_⟩;rcases p with ⟨p1, p2⟩ | ⟨b, el, fr, us, rest, p1, p2, p3, p4⟩
    ·exact .inl ⟨by rw [q3]; exact p1, p2⟩
    ·refine .inr ⟨b, el, fr, us, rest, by rw [q3]; exact p1, p2, z3k hlow e0.cells us ?_ p3, p4⟩
     cases e0 <;> first | exact q5 | rfl
  ·cases e with
   | grow8 l f =>
    simp only [zj8, Bool.and_eq_true, List.isEmpty_iff] at q;obtain ⟨rfl, rfl⟩ := q;exact ⟨trivial, .inl ⟨q2, rfl⟩⟩
   | grow k rows f =>
    simp only [zj8, Bool.and_eq_true, List.isEmpty_iff] at q;obtain ⟨rfl, rfl⟩ := q;exact ⟨fun a h => by simp at h, .inl ⟨q2, rfl⟩⟩
   | tail k m => exact ⟨trivial, .inl ⟨q2, rfl⟩⟩
   | _ => simp [Ent.grows] at he
end
end
noncomputable section
inductive LPlan where
 | none
 | unroll (n : Nat)
 | inv (α : Type) (ok : α → Prop) (m : α → Nat) (T : α → List AV) (H : α → Heap)
 | invg (α : Type) (g : Nat) (ok : AV → α → Prop) (m : α → Nat) (T : α → List AV) (H : α → Heap)
 | rel (keep gs : List Nat) (α : Type) (ok : List AV → α → Prop) (m : α → Nat) (T : α → List (Nat × AV)) (H : α → List (Nat × Ent))
 | mv (keep gs : List Nat) (α : Type) (ok : List AV → α → Prop) (m : α → Nat) (ds : St → List AV) (T : Nat → α → List (Nat × AV)) (H : Nat → α → List (Nat × Ent)) (X : α → List Ent)
def z8j (keep : List Nat) : Nat → List AV → List AV
 | _, [] => []
 | i, a :: as => (bif keep.contains i then a else .any) :: z8j keep (i + 1) as
def setAt : List AV → Nat → AV → List AV
 | [], _, _ => []
 | _ :: as, 0, x => x :: as
 | a :: as, n + 1, x => a :: setAt as n x
def zbr : List AV → List (Nat × AV) → List AV
 | t, [] => t
 | t, (i, x) :: u => zbr (setAt t i x) u
def setE : Heap → Nat → Ent → Heap
 | [], _, _ => []
 | _ :: as, 0, x => x :: as
 | a :: as, n + 1, x => a :: setE as n x
def z1bg : Heap → Heap
 | [] => []
 | e :: H => (match e with | .res => .dead | e => e) :: z1bg H
def z89 : Heap → List (Nat × Ent) → Heap
 | H, [] => z1bg H
 | H, (i, x) :: u => z89 (setE H i x) u
def zor : Code → Nat
 | .region id _ _ => id
 | .seq a _ => zor a
 | .cond _ a _ => zor a
 | .block _ c => zor c
 | .loop c => zor c
 | _ => 0
def leA (a b : AV) (k : Prop) : Prop :=
 match b with
 | .any => k
 | .ptr j p => match a with
  | .ptr i o => cnd ((i == j) && (o == p)) k
  | _ => False
 | .slv j p m g => match a with
  | .slv i o n f => cnd ((i == j) && (o == p)) (n = m ∧ (∀ x, x < m → f x = g x) ∧ k)
  | _ => False
 | b => a = b ∧ k
def leT : List AV → List AV → Prop → Prop
 | [], [], k => k
 | a :: as, b :: bs, k => leA a b (leT as bs k)
 | _, _, _ => False
def leC : List AV → List AV → Prop → Prop
 | [], [], k => k
 | a :: as, b :: bs, k => match b with
  | .any => cnd (szA a == 1) (leC as bs k)
  | .ptr j p => match a with
   | .ptr i o => cnd ((i == j) && (o == p)) (leC as bs k)
   | _ => False
  | b => a = b ∧ leC as bs k
 | _, _, _ => False
def leE (e e' : Ent) (k : Prop) : Prop :=
 match e' with
 | .dead => k
 | .blk c' f' => match e with
  | .blk c f => cnd (eqF f f') (leC (flL c) (flL c') k)
  | _ => False
 | .grow8 l' f' => match e with
  | .grow8 l f => cnd (eqF f f') (l = l' ∧ k)
  | _ => False
 | .grow n' r' f' => match e with
  | .grow n r f => cnd ((n == n') && eqF f f') (r = r' ∧ k)
  | _ => False
 | .tail k' n' => match e with
  | .tail k2 n => cnd (k2 == k') (n = n' ∧ k)
  | _ => False
 | .res => False
def leH : Heap → Heap → Prop → Prop
 | [], [], k => k
 | a :: as, b :: bs, k => leE a b (leH as bs k)
 | _, _, _ => False
def leS (n : Nat) (s : St) (T : List AV) (H : Heap) : Prop := leT s.t T (leH (s.H.take n) H True)
def z98 (n : Nat) (T : List AV) (H : Heap) : Bool := z2s n T && H.all fun e => match e with
 | .blk c _ => z2s n c
 | .grow _ rows _ => z2s n rows
 | _ => true
def fS (s : St) (k : St → Prop) : Prop := fL s.t fun t => fH s.H fun H => k ⟨t, H⟩
theorem z111 (s : St) (k : St → Prop) : fS s k = k s := by simp only [fS, z9p, ze4]
def zsl (F : (Exit → St → Prop) → St → Prop) : Nat → (Exit → St → Prop) → St → Prop
 | 0, _, _ => False
 | n + 1, Q, s => F (zdq (zsl F n Q) Q) s
def zk4 (pl : LPlan) (F : (Exit → St → Prop) → St → Prop) (Q : Exit → St → Prop) (s : St) : Prop :=
 match pl with
 | .none => False
 | .unroll n => zsl F n Q s
 | .inv α ok m T H => (∃ a : α, ok a ∧ leS s.H.length s (T a) (H a)) ∧
   ∀ a : α, ok a → cnd (((H a).length == s.H.length) && z98 s.H.length (T a) (H a)) (fS ⟨T a, H a⟩ (F (zdq (fun s' => ∃ b : α, (m b < m a ∧ ok b) ∧ leS s.H.length s' (T b) (H b)) Q)))
 | .invg α g ok m T H => (∃ a : α, ok (s.t.getD g .any) a ∧ leS s.H.length s (T a) (H a)) ∧
   ∀ a : α, ok (s.t.getD g .any) a → cnd (((H a).length == s.H.length) && z98 s.H.length (T a) (H a)) (fS ⟨T a, H a⟩ (F (zdq (fun s' => ∃ b : α, (m b < m a ∧ ok (s.t.getD g .any) b) ∧ leS s.H.length s' (T b) (H b)) Q)))
 | .rel keep gs α ok m T H => (∃ a : α, ok (gs.map fun i => s.t.getD i .any) a ∧ leS s.H.length s (zbr (z8j keep 0 s.t) (T a)) (z89 s.H (H a))) ∧
   ∀ a : α, ok (gs.map fun i => s.t.getD i .any) a → cnd (((z89 s.H (H a)).length == s.H.length) && z98 s.H.length (zbr (z8j keep 0 s.t) (T a)) (z89 s.H (H a))) (fS ⟨zbr (z8j keep 0 s.t) (T a), z89 s.H (H a)⟩ (F (zdq (fun s' => ∃ b : α, (m b < m a ∧ ok (gs.map fun i => s.t.getD i .any) b) ∧ leS s.H.length s' (zbr (z8j keep 0 s.t) (T b)) (z89 s.H (H b))) Q)))
 | .mv keep gs α ok m ds T H X => (∃ a : α, ok (gs.map fun i => s.t.getD i .any) a ∧ leM s.H.length (ds s) s (zbr (z8j keep 0 s.t) (T s.H.length a)) (z89 s.H (H s.H.length a)) (X a)) ∧
   ∀ a : α, ok (gs.map fun i => s.t.getD i .any) a → cnd ((z89 s.H (H s.H.length a)).length == s.H.length) (fS ⟨zbr (z8j keep 0 s.t) (T s.H.length a), z89 s.H (H s.H.length a) ++ X a⟩ (F (zdq (fun s' => ∃ b : α, (m b < m a ∧ ok (gs.map fun i => s.t.getD i .any) b) ∧ cnd (leB s.H.length s'.H.length) (leM s.H.length (ds s') s' (zbr (z8j keep 0 s.t) (T s.H.length b)) (z89 s.H (H s.H.length b)) (X b))) Q)))
def zk7 (l : Nat) (Z : Exit → St → Prop) : Exit → St → Prop
 | .goto l', s => bif l' == l then Z .normal s else False
 | .normal, s => Z (.goto l) s
 | e, s => Z e s
def z16u (pl : LPlan) (F : (Exit → St → Prop) → St → Prop) (Q : Exit → St → Prop) (s : St) : Prop :=
 match pl with
 | .mv _ _ _ _ _ _ _ _ _ => zk4 pl F Q s
 | _ => False
def qEs (n : Nat) (H : Heap) : Bool := @List.rec Ent (fun _ => Bool) true (fun e _ ih => (match e with
 | .blk c _ => qL n c
 | .grow _ rows _ => qL n rows
 | _ => true) && ih) H
theorem z15p (n : Nat) : ∀ H : Heap, qEs n H = z98 n [] H
 | [] => rfl
 | e :: r => by
  have h := z15p n r;unfold z98 at h ⊢;have e1 : z2s n [] = true := rfl;rw [e1, Bool.true_and] at h ⊢;rw [List.all_cons, ← h];cases e <;> simp only [qEs, zbw]
def gcH (n : Nat) (v : AV) (H : Heap) : Heap := bif qA n v && qEs n (H.take n) then H.take n else H
def z12o (t : List AV) (c : Operand) (v : AV) (x y : List AV → Prop) : Prop := match v with
 | .bool b => match c with
  | .tmp d => za b (zjl t d true x) (zjl t d false y)
  | _ => za b (x t) (y t)
 | _ => zko 1 v
section
variable {P : Program} (G : Env P) (R : ROps G) (C : FuncId → List AV → Option (Bool × Out))
def aw3 (cl : FuncId → List AV → St → Option Tmp → (St → Prop) → Prop) (L : Nat → LPlan) : Code → (Exit → St → Prop) → St → Prop
 | .skip, Q, s => Q .normal s
 | .label _, Q, s => Q .normal s
 | .exit id, Q, s => Q (.exit id) s
 | .goto l, Q, s => Q (.goto l) s
 | .ret, Q, s => Q .ret s
 | .seq x y, Q, s => aw3 cl L x (zdq (aw3 cl L y Q) Q) s
 | .cond c x y, Q, s => z12o s.t c (evA G s.t c) (fun t => aw3 cl L x Q ⟨t, s.H⟩) (fun t => aw3 cl L y Q ⟨t, s.H⟩)
 | .block id c, Q, s => aw3 cl L c (zu1 id Q) s
 | .region _ ops false, Q, s => zv2 G R C cl ops ops.toList s (Q .normal)
 | .region _ ops true, Q, s => zaz G R C cl ops (Q .normal) ops.toList s.H.length s.H.length ⟨s.t, s.H ++ List.replicate (z5i G ops.toList) .res⟩ []
 | .loop c, Q, s => zk4 (L (zor c)) (fun Q s => aw3 cl L c Q s) Q s
 | .scope (.seq (.label l) x), Q, s => z16u (L (zor x)) (fun Z s => aw3 cl L x (zk7 l Z) s) (zk7 l Q) s
 | _, _, _ => False
def zwd (L : FuncId → Nat → LPlan) : Nat → FuncId → List AV → St → Option Tmp → (St → Prop) → Prop
 | 0, f, _, _, _, _ => zko (1000 + f) .any
 | n + 1, f, args, s, d, K => match P.funcs[f]? with
  | some fn => match fn.body with
   | some c => fL (args ++ List.replicate (fn.ntmps - args.length) (.tup [])) fun t => aw3 G R C (zwd L n) (L f) c (aend G fn fun v H' => zhc s.t d v fun t => fH (gcH s.H.length v H') fun H => K ⟨t, H⟩) ⟨t, s.H⟩
   | none => False
  | none => False
mutual
def z1bx : AV → List Nat
 | .sl id _ _ _ => [id]
 | .slv id _ _ _ => [id]
 | .ptr id _ => [id]
 | .tup l => refsOf l
 | .agg l => refsOf l
 | _ => []
def refsOf : List AV → List Nat
 | [] => []
 | a :: as => z1bx a ++ refsOf as
end
def dedup : List Nat → List Nat → List Nat
 | [], acc => acc
 | a :: as, acc => bif acc.contains a then dedup as acc else dedup as (acc ++ [a])
def zkb : List Nat → Nat → Nat
 | [], _ => 0
 | a :: as, i => bif a == i then 0 else zkb as i + 1
end
mutual
def ztr (ids : List Nat) : AV → AV
 | .sl id off k len => .sl (zkb ids id) off k len
 | .slv id k n f => .slv (zkb ids id) k n f
 | .ptr id off => .ptr (zkb ids id) off
 | .agg l => .agg (zq6 ids l)
 | .tup l => .tup (zq6 ids l)
 | a => a
def zq6 (ids : List Nat) : List AV → List AV
 | [] => []
 | a :: as => ztr ids a :: zq6 ids as
end
mutual
def zne (ids : List Nat) : AV → Bool
 | .sl id _ _ _ => ids.contains id
 | .slv id _ _ _ => ids.contains id
 | .ptr id _ => ids.contains id
 | .agg l => zb3 ids l
 | .tup l => zb3 ids l
 | a => z35 0 a
def zb3 (ids : List Nat) : List AV → Bool
 | [] => true
 | a :: as => zne ids a && zb3 ids as
end
def colE (H : Heap) : List Nat → Bool
 | [] => true
 | i :: r => (match H[i]? with
  | some e => e.live && z6h 0 e
  | none => false) && colE H r
def zmb (K : AV → Heap → Prop) (v : AV) (H : Heap) : Prop :=
 let ids := dedup (refsOf [v]) []
 cnd (zne ids v && colE H ids) (K (ztr ids v) (ids.map fun i => H.getD i .dead))
section
variable {P : Program} (G : Env P) (R : ROps G) (C : FuncId → List AV → Option (Bool × Out))
def walk (L : FuncId → Nat → LPlan) (n : Nat) (f : FuncId) (args : List AV) (K : AV → Heap → Prop) : Prop :=
 match P.funcs[f]? with
 | some fn => match fn.body with
  | some c => fL (args ++ List.replicate (fn.ntmps - args.length) (.tup [])) fun t => aw3 G R C (zwd G R C L n) (L f) c (aend G fn (zmb K)) ⟨t, []⟩
  | none => False
 | none => False
end
end
end Go.V