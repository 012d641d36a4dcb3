/- The abstract layer (third state), part I: contracts in use. -/
import Derived.Test.YtfjmpdoidkblcaaDoorWH
set_option linter.unusedSimpArgs false
set_option linter.unusedVariables false
namespace Go.V
open Go

/-- Rows are as long as they say. -/
def lenOk : AV → Prop
  | .b8 n l => l.length = n
  | .w32 n l => l.length = n
  | .w64 n l => l.length = n
  | _ => True

section
variable {P : Program} {G : Env P}
theorem rel_lenOk {ρ : Rho} {I : Imm} {w : World} {a : AV} {v : Value} (h : rel ρ I w a v) : lenOk a := by
  cases a <;> first | trivial | (obtain ⟨_, _, _, h⟩ := h; exact h)
theorem RV_lenOk {ρ : Rho} {I : Imm} {w : World} : ∀ {l : List AV} {vs : List Value}, RV ρ I w l vs → ∀ a ∈ l, lenOk a
  | [], _, _, a, ha => by simp at ha
  | b :: bs, _, ⟨x, xs, h0, h1, h2⟩, a, ha => by
    rcases List.mem_cons.1 ha with rfl | ha
    · exact rel_lenOk h1
    · exact RV_lenOk h2 a ha

/-- Nothing is to be shown where rows are not as long as they say. -/
theorem HCall.of_len {f : FuncId} {args : List AV} {out : Out} (hp : pureL args = true) (ho : out.okB = true) (h : (∀ a ∈ args, lenOk a) → HCall G f args out) : HCall G f args out := by
  refine ⟨hp, ho, fun ρ I w vs c r => ?_⟩
  exact (h (RV_lenOk r)).call ρ I w vs c r
theorem has_ret {v v' : AV} {H H' : Heap} : (Out.ret v H).has v' H' ↔ v' = v ∧ H' = H := Iff.rfl
theorem has_alt {b : Bool} {x y : Out} {v' : AV} {H' : Heap} : (Out.alt b x y).has v' H' ↔ (b = true → x.has v' H') ∧ (b = false → y.has v' H') := by
  cases b <;> simp [Out.has]
theorem has_refl {v : AV} {H : Heap} : (Out.ret v H).has v H := ⟨rfl, rfl⟩
/-- Pick by cases, as a rule of logic. -/
theorem ite2_eq {b : Bool} {x y : Prop} : ite2 b x y = ((b = true → x) ∧ (b = false → y)) := propext ite2_iff
theorem cnd_eq {b : Bool} {x : Prop} : cnd b x = (b = true ∧ x) := propext cnd_iff
end
end Go.V
