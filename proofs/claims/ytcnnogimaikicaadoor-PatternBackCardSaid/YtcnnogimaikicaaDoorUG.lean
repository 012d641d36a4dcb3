/- The abstract layer (third state): contracts of calls that take over the room behind their first argument. -/
import Derived.Test.YtcnnogimaikicaaDoorUC

set_option linter.unusedSimpArgs false
set_option linter.unusedVariables false
namespace Go.V
open Go
noncomputable section
/-- A leaf that comes to a plain value, written no more. -/
def okG (v0 v : AV) (H : Heap) : Prop := ∃ v' u, coldT H v = (true, v', u) ∧ leV v' v0
theorem okG.mk {v0 v v' : AV} {H : Heap} {u : List (Nat × Ent)} (h : coldT H v = (true, v', u)) (hle : leV v' v0) : okG v0 v H := ⟨v', u, h, hle⟩
section
variable {P : Program} (G : Env P) (R : ROps G) (C : FuncId → List AV → Option (Bool × Out))
def walkH (L : FuncId → Nat → LPlan) (n : Nat) (f : FuncId) (args : List AV) (H : Heap) (K : AV → Heap → Prop) : Prop :=
  match P.funcs[f]? with
  | some fn => match fn.body with
    | some c => fL (args ++ List.replicate (fn.ntmps - args.length) (.tup [])) fun t => aw3 G R C (cinl G R C L n) (L f) c (aend G fn K) ⟨t, H⟩
    | none => False
  | none => False
end
section
variable {P : Program} {G : Env P} {R : ROps G} {T : Ctr G}
theorem GCall.of_walk (L : FuncId → Nat → LPlan) (d : Nat) {f : FuncId} {k n : Nat} {fr : Nat → List AV} {rest : List AV} {v : AV} (hp : pureL rest = true) (hv : pureA v = true)
    (h : walkH G R T.C L d f (.slv 0 k n fr :: rest) [.tail k n] (okG v)) : GCall G f (.slv 0 k n fr :: rest) v := by
  refine ⟨hv, k, n, fr, rest, rfl, hp, ?_⟩
  unfold walkH at h
  split at h
  · rename_i fn hf
    split at h
    · rename_i c hb
      have ha : ACall G f (.slv 0 k n fr :: rest) [.tail k n] (okG v) := body_sound hf hb (aw3_sound (cinl_sound L d) (L f) c (by
        simp only [fL_eq] at h
        exact h))
      intro ρ I w vs hc hr
      refine (ha ρ I w vs hc hr).mono ?_
      rintro e w' ⟨x, rfl, ρ', I', v1, H', g, c', hx, v', u, h1, h2⟩
      obtain ⟨I2, f1, f2, f3, f4⟩ := coldT_sound v1 I' H' c' (by rw [h1])
      rw [h1] at f1 f2 f4
      exact ⟨x, rfl, ρ', I2, v, _, g.trans f1, f2, h2 _ _ _ _ (f4 _ hx), rfl⟩
    · exact h.elim
  · exact h.elim

/-- One more such contract. -/
def Ctr.addG (T : Ctr G) (k : Nat) (c : List AV → Option (Bool × AV)) (ok : ∀ args pre v, c args = some (pre, v) → pre = true → GCall G k args v) : Ctr G where
  C := fun f args => bif f == k then (match args with
    | [.tup [], .tup a] => (match c a with
      | some (pre, v) => some (pre, .ret v [])
      | none => none)
    | _ => T.C f args) else T.C f args
  ok := fun f args pre out h hp => by
    cases hb : f == k with
    | true =>
      rw [hb] at h
      have : f = k := by simpa using hb
      subst this
      simp only [cond_true] at h
      split at h
      · rename_i a
        split at h
        · rename_i p v hc
          simp only [Option.some.injEq, Prod.mk.injEq] at h
          obtain ⟨rfl, rfl⟩ := h
          exact .inr ⟨v, a, rfl, rfl, ok a _ v hc hp⟩
        · simp at h
      · exact T.ok f args pre out h hp
    | false => rw [hb] at h; exact T.ok f args pre out h hp
/-- Such a contract, of rows that say more. -/
theorem GCall.rows {f : FuncId} {k n : Nat} {fr gr : Nat → List AV} {rest : List AV} {v : AV} (h : GCall G f (.slv 0 k n gr :: rest) v) (hr : ∀ i, i < n → leR (fr i) (gr i)) : GCall G f (.slv 0 k n fr :: rest) v := by
  obtain ⟨hv, k', n', gr', rest', he, hp, hc⟩ := h
  simp only [List.cons.injEq, AV.slv.injEq, true_and] at he
  obtain ⟨⟨rfl, rfl, rfl⟩, rfl⟩ := he
  refine ⟨hv, k, n, fr, rest, rfl, hp, fun ρ I w vs c r => hc ρ I w vs c ?_⟩
  obtain ⟨x, xs, rfl, k1, k2⟩ := RV_cons.1 r
  obtain ⟨j1, j2⟩ := rel_slv.1 k1
  exact RV_cons.2 ⟨x, xs, rfl, rel_slv.2 ⟨leV_vecr id hr _ _ _ _ j1, j2⟩, k2⟩
end
end
end Go.V
