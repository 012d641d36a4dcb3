/- The abstract layer (second state), part K: calls. -/
import Derived.Test.YtfjmpdoidkblcaaDoorVJ
set_option linter.unusedSimpArgs false
set_option linter.unusedVariables false
namespace Go.V
open Go
noncomputable section

section
variable {P : Program} (G : Env P)
/-- A call that takes plain values and comes to a plain value. -/
def FCall (f : FuncId) (args : List AV) (v : AV) : Prop :=
  pureL args = true ∧ pureA v = true ∧ ACall G f args [] fun v' _ => v' = v
/-- References to entries that grow. -/
def growsB (H : Heap) (id : Nat) : Bool := match H[id]? with
  | some e => e.grows
  | none => false
end

section
variable {P : Program} {G : Env P} {ρ : Rho} {I : Imm} {H : Heap} {w : World}

theorem noMut {ρ : Rho} {b o : Nat} : ¬ Mut ρ ([] : Heap) b o := fun ⟨_, _, h, _⟩ => by simp at h

theorem ACall.mono {f : FuncId} {args : List AV} {R R' : AV → Heap → Prop} (h : ACall G f args H R) (hr : ∀ v H', R v H' → R' v H') : ACall G f args H R' := by
  intro ρ I w vs c r
  refine Calls.mono (h ρ I w vs c r) ?_
  rintro e w' ⟨x, rfl, ρ', I', v, H', g1, g2, g3, g4⟩
  exact ⟨x, rfl, ρ', I', v, H', g1, g2, g3, hr _ _ g4⟩

theorem empty_conc (c : Conc G.g ρ I H w) : Conc G.g (fun _ => none) I [] w :=
  ⟨fun _ h => absurd rfl h, fun _ h => by simp at h, fun _ _ h => by simp at h, fun _ _ _ _ _ h => by simp at h, fun _ _ _ h => by simp at h, fun _ _ h => by simp at h,
    fun b o hb => ⟨(c.imm b o hb).1, noMut⟩, c.glob⟩

theorem FCall.lift {f : FuncId} {args : List AV} {v : AV} (h : FCall G f args v) (c : Conc G.g ρ I H w) {vs : List Value} (r : RV ρ I w args vs) :
    Calls P f vs.toArray w fun e w' => ∃ x, e = .returned x ∧ ∃ I', Good ρ I H w ρ I' H w' ∧ Conc G.g ρ I' H w' ∧ Mono ρ I w ρ I' w' ∧ rel ρ I' w' v x := by
  obtain ⟨hp, hv, hc⟩ := h
  refine (hc (fun _ => none) I w vs (empty_conc c) (RV_pure hp r)).mono ?_
  rintro e w' ⟨x, rfl, ρ', I', v', H', g, c', hr, rfl⟩
  have g' : Good ρ I H w ρ I' H w' := by
    refine ⟨fun _ _ h => .inl h, fun _ _ _ h => h, Nat.le_refl _, g.imm, fun b o hb h => .inl ((g.imm' b o hb h).resolve_right noMut), g.os, g.tape, g.out, g.size, fun b o hb _ => g.cell b o hb noMut,
      fun b hb _ => g.block b hb (fun _ => noMut), g.bs, fun _ _ _ h => h, fun _ _ h => h⟩
  have m := c.mono g' fun _ _ h => h
  have blk : ∀ b, b < w.heap.size → w'.heap[b]? = w.heap[b]? := fun b hb => g.block b hb (fun _ => noMut)
  refine ⟨x, rfl, I', g', ?_, m, rel_pure hv hr⟩
  refine ⟨c.dom, c.res, fun id b h => Nat.lt_of_lt_of_le (c.blt id b h) g.size, c.inj, ?_, ?_, ?_, ?_⟩
  · intro id cs f h
    obtain ⟨b, el, fr, us, k1, k2, k3, k4⟩ := c.blk id cs f h
    exact ⟨b, el, fr, us, k1, by rw [blk b (c.blt id b k1)]; exact k2, RL_mono m _ _ k3, k4⟩
  · intro id e h he
    obtain ⟨q, h⟩ := c.grow id e h he
    refine ⟨q, ?_⟩
    rcases h with h | ⟨b, el, fr, us, rest, k1, k2, k3, k4⟩
    · exact .inl h
    · exact .inr ⟨b, el, fr, us, rest, k1, by rw [blk b (c.blt id b k1)]; exact k2, RL_mono m _ _ k3, k4⟩
  · intro b o hb
    obtain ⟨h1, _⟩ := c'.imm b o hb
    refine ⟨h1, fun hm => ?_⟩
    obtain ⟨id, e, q1, q2, q3, q4⟩ := hm
    have hlt := c.blt id b q3
    exact (c.imm b o ((g.imm' b o hlt hb).resolve_right noMut)).2 ⟨id, e, q1, q2, q3, q4⟩
  · exact c'.glob

theorem ACall.of_f {f : FuncId} {args : List AV} {v : AV} (h : FCall G f args v) {R : AV → Heap → Prop} (hr : R v H) : ACall G f args H R := by
  intro ρ I w vs c r
  refine (h.lift c r).mono ?_
  rintro e w' ⟨x, rfl, I', g, c', m, hx⟩
  exact ⟨x, rfl, ρ, I', v, H, g, c', hx, hr⟩

/-- A call of a function whose value is known. -/
theorem callS.of_f {f : FuncId} {args : List AV} {v : AV} (h : FCall G f args v) {s : St} {d : Option Tmp} {K : St → Prop} (hk : K ⟨putA s.t d v, s.H⟩) : callS G f args s d K := by
  intro ρ I w a vs c r ra
  refine (h.lift c ra).mono ?_
  rintro e w' ⟨x, rfl, I', g, c', m, hx⟩
  exact ⟨x, rfl, ρ, I', ⟨putA s.t d v, s.H⟩, g, c', (r.mono m).put d hx, hk⟩

/-- Any call. -/
theorem callS.of_acall {f : FuncId} {args : List AV} {s : St} {d : Option Tmp} {K : St → Prop} (h : ACall G f args s.H fun v H' => K ⟨putA (killL (growsB s.H) s.t) d v, H'⟩) : callS G f args s d K := by
  intro ρ I w a vs c r ra
  refine (h ρ I w vs c ra).mono ?_
  rintro e w' ⟨x, rfl, ρ', I', v, H', g, c', hx, hk⟩
  have m : MonoBut (growsB s.H) ρ I w ρ' I' w' :=
    ⟨fun id x hs h => by
      rcases g.ext id x h with h | ⟨e, he, hg⟩
      · exact h
      · simp [growsB, he, hg] at hs,
     fun b o h => by
      obtain ⟨h1, h2⟩ := c.imm b o h
      exact ⟨g.imm b o h, g.cell b o h1 h2⟩,
     fun b h => ⟨Nat.lt_of_lt_of_le h g.size, g.bs b h⟩⟩
  exact ⟨x, rfl, ρ', I', ⟨_, H'⟩, g, c', RelT.put ⟨RV_kill m _ _ r.tr, r.defers⟩ d hx, hk⟩

/-- A body that comes to a plain value. -/
theorem FCall.of_acall {f : FuncId} {args : List AV} {v : AV} (hp : pureL args = true) (hv : pureA v = true) (h : ACall G f args [] fun v' _ => v' = v) : FCall G f args v := ⟨hp, hv, h⟩
end
end
end Go.V
