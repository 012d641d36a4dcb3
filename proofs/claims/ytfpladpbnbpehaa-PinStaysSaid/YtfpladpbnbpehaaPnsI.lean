import Derived.Test.YtfpladpbnbpehaaPnsH
import Derived.Test.YtfpladpbnbpehaaPnsT
import Derived.Test.YtfpladpbnbpehaaFrm
set_option linter.unusedSimpArgs false
set_option linter.unusedVariables false
namespace Go.Proofs.Ytfpladpbnbpehaa
open Go Go.V Go.Pin
noncomputable def P6 : Ctr Try.E := (P5.add 20 (fun
    | [] => some (true, .ret (.bool true) [])
    | _ => none) (by
      intro args pre out h hp
      split at h
      · simp only [Option.some.injEq, Prod.mk.injEq] at h
        obtain ⟨rfl, rfl⟩ := h
        exact ptells_c
      · simp at h)).add 15 (fun
    | [.vecr _ 4 n f] => some (Frm.isRaws n f, .ret (.tup [.vecr false 34 (pinnedN (Frm.rawsOf n f) (min n 20)).length (pcs (pinnedN (Frm.rawsOf n f) (min n 20))), .bool true]) [])
    | _ => none) (by
      intro args pre out h hp
      split at h
      · simp only [Option.some.injEq, Prod.mk.injEq] at h
        obtain ⟨rfl, rfl⟩ := h
        obtain ⟨l, rfl, rfl⟩ := Frm.isRaws_iff.1 hp
        rw [Frm.rawsOf_eq]
        refine HCall.args (spinned_c l) rfl fun ρ I w vs r => ?_
        obtain ⟨x, xs, rfl, k1, k2⟩ := RV_cons.1 r
        exact RV_cons.2 ⟨x, xs, rfl, leV_vecr (by simp) (fun i hi => leR.refl rfl) _ _ _ _ k1, k2⟩
      · simp at h)
end Go.Proofs.Ytfpladpbnbpehaa
