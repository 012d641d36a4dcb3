/- What a slice's data tell of its length. -/
import Derived.Test.YtfpladpbnbpehaaWP

set_option linter.unusedSimpArgs false
set_option linter.unusedVariables false
namespace Go.V
open Go Go.ChangeShapes Go.WideShapes Go.RowKit Go.Deep
section
variable {H : Type} {enc : TypeId × Value → H} {P : Program} {W : World} {base : Nat} {sp : Nat → Bool} {held : Bool}
theorem slice_data {t e : Nat} (ht : P.underlying t = some (.slice e)) {v : Value} {d : DataW H} {p : List MemPlace} (hd : DataW.Trod enc P W base sp held t v d p) {ρ : Rho} {I : Imm} {l : List UInt8} (hr : rel ρ I W (.vec8 false l) v) :
    l = [] ∨ ∃ es sp, d = .slice es sp ∧ es.length = l.length := by
  obtain ⟨a, cap, rfl, _⟩ := rel_vec8.1 hr
  obtain ⟨fuel, hf⟩ := hd
  rcases open_slice ht hf with ⟨h0, _⟩ | ⟨a', len', cap', m, n, D, Pl, h0, _, hl, hm, hmm, hx0, hx⟩
  · simp only [Value.cells, List.cons.injEq, Value.slice.injEq, and_true] at h0
    exact .inl (List.eq_nil_of_length_eq_zero h0.2.1)
  · simp only [Value.cells, List.cons.injEq, Value.slice.injEq, and_true] at h0
    simp only [Prod.mk.injEq] at hx0
    exact .inr ⟨_, _, hx0.1, by rw [List.length_map, List.length_range]; exact h0.2.1.symm⟩
end
end Go.V
