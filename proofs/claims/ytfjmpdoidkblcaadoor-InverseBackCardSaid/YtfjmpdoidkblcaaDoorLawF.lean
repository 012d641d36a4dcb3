import Derived.Test.YtfjmpdoidkblcaaDoorF3E
set_option linter.unusedSimpArgs false
set_option linter.unusedVariables false
namespace Go.Proofs.YtfjmpdoidkblcaaDoor
open Go Go.V Go.Fld
set_option maxRecDepth 100000

theorem fieldTells_w (K : AV → Heap → Prop) : walk Tryd.E RR T5.C (fun _ _ => .unroll 6) 4 14 [] K =
    cnd (ltN (nv [2, 0, 0, 0]) prm && ltN (nv [2, 0, 0, 0]) prm) (K (.bool (fes ((nv [2, 0, 0, 0] + nv [2, 0, 0, 0]) % prm) == [4, 0, 0, 0])) []) := by kernel_rfl
theorem fieldTells_c : HCall Tryd.E 14 [] (.ret (.bool true) []) := by
  refine HCall.of_walk (R := RR) (T := T5) (fun _ _ => .unroll 6) 4 rfl rfl ?_
  have h2 : nv [2, 0, 0, 0] = 2 := rfl
  rw [fieldTells_w, h2, ltN_eq, decide_eq_true (show 2 < prm by decide), fes_eq]
  exact ⟨rfl, rfl⟩

noncomputable def T6 : Ctr Tryd.E := T5.add 14 (fun
    | [] => some (true, .ret (.bool true) [])
    | _ => none) (by
      intro args pre out h hp
      split at h
      · simp only [Option.some.injEq, Prod.mk.injEq] at h
        obtain ⟨rfl, rfl⟩ := h
        exact fieldTells_c
      · simp at h)
end Go.Proofs.YtfjmpdoidkblcaaDoor
