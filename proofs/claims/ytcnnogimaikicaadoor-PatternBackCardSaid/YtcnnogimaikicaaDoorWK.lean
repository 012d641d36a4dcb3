/- The abstract layer (third state), part K: contracts that say less; values laid flat. -/
import Derived.Test.YtcnnogimaikicaaDoorW2

set_option linter.unusedSimpArgs false
set_option linter.unusedVariables false
namespace Go.V
open Go
noncomputable section
section
variable {P : Program} {G : Env P}

/-- A value that says no more. -/
def leV (a b : AV) : Prop := ∀ ρ I w v, rel ρ I w a v → rel ρ I w b v

theorem HCall.weak {f : FuncId} {args : List AV} {a b : AV} {H0 : Heap} (h : HCall G f args (.ret a H0)) (hle : leV a b) (hb : refsA H0.length b = true) : HCall G f args (.ret b H0) := by
  obtain ⟨h1, h2, h3⟩ := h
  refine ⟨h1, ?_, fun ρ I w vs c r => (h3 ρ I w vs c r).mono ?_⟩
  · simp only [Out.okB, Bool.and_eq_true] at h2 ⊢
    exact ⟨hb, h2.2⟩
  · rintro e w' ⟨x, rfl, ρ', I', v, H', g, c', hr, rfl, rfl⟩
    exact ⟨x, rfl, ρ', I', b, H', g, c', hle _ _ _ _ hr, rfl, rfl⟩

/-- A plain value, and nothing of what was made. -/
theorem HCall.drop {f : FuncId} {args : List AV} {a b : AV} {H0 : Heap} (h : HCall G f args (.ret a H0)) (hle : leV a b) (hb : pureA b = true) : HCall G f args (.ret b []) := by
  obtain ⟨h1, h2, h3⟩ := h
  refine ⟨h1, ?_, fun ρ I w vs c r => (h3 ρ I w vs c r).mono ?_⟩
  · simp only [Out.okB, Bool.and_eq_true]
    exact ⟨refsA_pure b hb _, rfl⟩
  · rintro e w' ⟨x, rfl, ρ', I', v, H', g, c', hr, rfl, rfl⟩
    obtain ⟨c2, g2⟩ := cut_conc c' 0 (fun e he => by simp at he)
    exact ⟨x, rfl, cutR 0 ρ', I', b, [], g2 g (fun id h => absurd (c.dom id h) (by simp)) (Nat.le_refl _), c2, rel_pure hb (hle _ _ _ _ hr), rfl, rfl⟩
/-- .. in each case. -/
inductive OutLe : Out → Out → Prop where
  | refl (o : Out) : OutLe o o
  | drop {a b : AV} {H0 : Heap} (hle : leV a b) (hb : pureA b = true) : OutLe (.ret a H0) (.ret b [])
  | alt {b : Bool} {x y x' y' : Out} (h1 : b = true → OutLe x x') (h2 : b = false → OutLe y y') : OutLe (.alt b x y) (.alt b x' y')
theorem OutLe.has {o o' : Out} (h : OutLe o o') : ∀ {v : AV} {H : Heap}, o.has v H → (o'.has v H ∨ ∃ b, pureA b = true ∧ leV v b ∧ o'.has b []) := by
  induction h with
  | refl o => exact fun h => .inl h
  | drop hle hb =>
    rintro v H ⟨rfl, rfl⟩
    exact .inr ⟨_, hb, hle, rfl, rfl⟩
  | @alt b x y x' y' _ _ ih1 ih2 =>
    intro v H h
    cases b with
    | true => exact ih1 rfl h
    | false => exact ih2 rfl h
theorem HCall.le {f : FuncId} {args : List AV} {o o' : Out} (h : HCall G f args o) (hle : OutLe o o') (ho : o'.okB = true) : HCall G f args o' := by
  obtain ⟨h1, h2, h3⟩ := h
  refine ⟨h1, ho, fun ρ I w vs c r => (h3 ρ I w vs c r).mono ?_⟩
  rintro e w' ⟨x, rfl, ρ', I', v, H', g, c', hr, hh⟩
  rcases hle.has hh with h' | ⟨b, hb, hle, h'⟩
  · exact ⟨x, rfl, ρ', I', v, H', g, c', hr, h'⟩
  · obtain ⟨c2, g2⟩ := cut_conc c' 0 (fun e he => by simp at he)
    exact ⟨x, rfl, cutR 0 ρ', I', b, [], g2 g (fun id h => absurd (c.dom id h) (by simp)) (Nat.le_refl _), c2, rel_pure hb (hle _ _ _ _ hr), h'⟩

theorem HCall.args {f : FuncId} {l l' : List AV} {out : Out} (h : HCall G f l out) (hp : pureL l' = true) (hle : ∀ ρ I w vs, RV ρ I w l' vs → RV ρ I w l vs) : HCall G f l' out :=
  ⟨hp, h.po, fun ρ I w vs c r => h.call ρ I w vs c (hle _ _ _ _ r)⟩

theorem leV.refl (a : AV) : leV a a := fun _ _ _ _ h => h
theorem leV_slv {id k m : Nat} {f g : Nat → List AV} (h : ∀ x, x < m → leR (f x) (g x)) : leV (.slv id k m f) (.vecr false k m g) := fun _ _ _ _ r => vecr_le h (fun h => h) (rel_slv.1 r).1
theorem leV_vecr {full full' : Bool} {k m : Nat} {f g : Nat → List AV} (hf : full = true → full' = true) (h : ∀ x, x < m → leR (f x) (g x)) : leV (.vecr full' k m f) (.vecr full k m g) := fun _ _ _ _ r => vecr_le h hf r
theorem leV_nil {a : AV} (h : nilS a = true) {full : Bool} {k : Nat} {g : Nat → List AV} : leV a (.vecr full k 0 g) := fun _ _ _ _ r => by
  obtain ⟨x, rfl⟩ := nilS_val h r
  exact nil_vecr
theorem leV_tup {l l' : List AV} (h : ∀ ρ I w vs, RV ρ I w l vs → RV ρ I w l' vs) : leV (.tup l) (.tup l') := fun _ _ _ _ r => by
  obtain ⟨cs, h1, h2⟩ := rel_tup.1 r
  exact rel_tup.2 ⟨cs, h1, h _ _ _ _ h2⟩
theorem leRV_cons {a b : AV} {l l' : List AV} (h : leV a b) (h' : ∀ ρ I w vs, RV ρ I w l vs → RV ρ I w l' vs) : ∀ ρ I w vs, RV ρ I w (a :: l) vs → RV ρ I w (b :: l') vs := fun _ _ _ _ r => by
  obtain ⟨x, xs, rfl, k1, k2⟩ := RV_cons.1 r
  exact RV_cons.2 ⟨x, xs, rfl, h _ _ _ _ k1, h' _ _ _ _ k2⟩
theorem leRV_nil : ∀ ρ I w vs, RV ρ I w [] vs → RV ρ I w [] vs := fun _ _ _ _ h => h
theorem leV_agg {l l' : List AV} (h : leR l l') : leV (.agg l) (.agg l') := fun _ _ _ _ r => by
  obtain ⟨cs, h1, h2⟩ := rel_agg.1 r
  exact rel_agg.2 ⟨cs, h1, h.rl _ _ _ _ h2⟩
/-- What is put together, laid flat. -/
theorem leV_flat (l : List AV) : leV (.agg l) (.agg (flL l)) := fun ρ I w v h => by
  obtain ⟨cs, h1, h2⟩ := rel_agg.1 h
  exact rel_agg.2 ⟨cs, h1, (RL_fl l _).1 h2⟩
end
end
end Go.V
