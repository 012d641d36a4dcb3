/- The abstract layer (third state), part L: rows in what is put together are as long as they say. -/
import Derived.Test.YtcnnogimaikicaaDoorWS

set_option linter.unusedSimpArgs false
set_option linter.unusedVariables false
namespace Go.V
open Go

/-- Rows are as long as they say, in what is put together too. -/
def lenAll : AV → Prop
  | .agg l => ∀ a ∈ l, lenOk a
  | a => lenOk a

theorem ite2_true {x y : Prop} : ite2 true x y = x := rfl
theorem ite2_false {x y : Prop} : ite2 false x y = y := rfl

section
variable {P : Program} {G : Env P}
theorem R_lenOk {ρ : Rho} {I : Imm} {w : World} {a : AV} {xs : List Value} (h : R ρ I w a xs) : lenOk a := by
  cases a <;> first | trivial | exact h.2
theorem RL_lenOk {ρ : Rho} {I : Imm} {w : World} : ∀ {l : List AV} {xs : List Value}, RL ρ I w l xs → ∀ a ∈ l, lenOk a
  | [], _, _, a, ha => by simp at ha
  | b :: bs, _, ⟨ys, zs, h0, h1, h2⟩, a, ha => by
    rcases List.mem_cons.1 ha with rfl | ha
    · exact R_lenOk h1
    · exact RL_lenOk h2 a ha
theorem rel_lenAll {ρ : Rho} {I : Imm} {w : World} {a : AV} {v : Value} (h : rel ρ I w a v) : lenAll a := by
  cases a <;> first | trivial | (obtain ⟨_, _, _, h⟩ := h; exact h) | (obtain ⟨_, _, h⟩ := h; exact RL_lenOk h)
theorem RV_lenAll {ρ : Rho} {I : Imm} {w : World} : ∀ {l : List AV} {vs : List Value}, RV ρ I w l vs → ∀ a ∈ l, lenAll a
  | [], _, _, a, ha => by simp at ha
  | b :: bs, _, ⟨x, xs, h0, h1, h2⟩, a, ha => by
    rcases List.mem_cons.1 ha with rfl | ha
    · exact rel_lenAll h1
    · exact RV_lenAll h2 a ha
/-- Nothing is to be shown where rows are not as long as they say. -/
theorem HCall.of_lens {f : FuncId} {args : List AV} {out : Out} (hp : pureL args = true) (ho : out.okB = true) (h : (∀ a ∈ args, lenAll a) → HCall G f args out) : HCall G f args out := by
  refine ⟨hp, ho, fun ρ I w vs c r => ?_⟩
  exact (h (RV_lenAll r)).call ρ I w vs c r
theorem HCall.alt_l {f : FuncId} {args : List AV} {b : Bool} {x y : Out} (hb : b = true) (hy : y.okB = true) (h : HCall G f args x) : HCall G f args (.alt b x y) := by
  subst hb
  exact ⟨h.pa, by show (x.okB && y.okB) = true; rw [h.po, hy]; rfl, h.call⟩
theorem HCall.alt_r {f : FuncId} {args : List AV} {b : Bool} {x y : Out} (hb : b = false) (hx : x.okB = true) (h : HCall G f args y) : HCall G f args (.alt b x y) := by
  subst hb
  exact ⟨h.pa, by show (x.okB && y.okB) = true; rw [h.po, hx]; rfl, h.call⟩
end
end Go.V

/- Common bounds of loops. -/
set_option linter.unusedSimpArgs false
set_option linter.unusedVariables false
namespace Go.Inv
open Go Go.V
/-- A counter that goes up to a number that is known at the loop's beginning. -/
def upTo (g : List AV) (i : Nat) : Prop := match g with
  | [.int _ n] => (i : Int) ≤ n
  | _ => False
def up (i : Nat) : Nat := 9223372036854775808 - i
theorem upTo_int {k : IntKind} {n : Int} {i : Nat} : upTo [.int k n] i ↔ (i : Int) ≤ n := Iff.rfl
theorem up_lt {i : Nat} (h : i < 9223372036854775807) : up (i + 1) < up i := by unfold up; omega
/-- So many more rounds, counted by an int from nought. -/
def count (keep : List Nat) (n j : Nat) : LPlan := .rel keep [n] Nat upTo up (fun i => [(j, .int .i64 (i : Nat))]) (fun _ => [])
end Go.Inv
