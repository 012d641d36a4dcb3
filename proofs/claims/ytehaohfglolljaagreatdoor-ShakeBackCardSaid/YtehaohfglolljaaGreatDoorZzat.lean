import Derived.Test.YtehaohfglolljaaGreatDoorZzai
import Derived.LaidSub
set_option linter.unusedSimpArgs false
set_option linter.unusedVariables false
namespace Go.V
open Go Go.Lib Go.RowKit
theorem z15l {W : World} {g : Nat} (h : ∃ m, W.cell? ⟨g, 0, none⟩ = some (.int .i64 m)) : ∃ vs, GL (I0 W) W [.any] vs ∧ Lies (I0 W) W g 0 vs := by
 obtain ⟨m, hm⟩ := h;refine ⟨[.int .i64 m], ⟨⟨[.int .i64 m], [], rfl, ⟨_, rfl⟩, rfl⟩, m, rfl⟩, fun i x hx => ?_⟩
 cases i with
 | zero =>
  simp only [List.getElem?_cons_zero, Option.some.injEq] at hx;subst hx;refine ⟨hm, ?_⟩;exact World.block_lt_of_cell? _ _ hm
 | succ i => simp at hx
end Go.V