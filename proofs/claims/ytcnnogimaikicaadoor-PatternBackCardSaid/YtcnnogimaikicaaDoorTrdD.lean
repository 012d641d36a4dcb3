import Derived.Test.YtcnnogimaikicaaDoorTrdC
import Derived.Test.YtcnnogimaikicaaDoorPatT
set_option linter.unusedSimpArgs false
set_option linter.unusedVariables false
namespace Go.Proofs.YtcnnogimaikicaaDoor
open Go Go.V Go.Pat
set_option maxRecDepth 100000
theorem with_l (s : List UInt8) (l : List Int) (h : isW s l = true) : HCall Tryd.E 17 [.str s, vI l] (.ret (.tup [patL (withP s l), .int .i64 0]) []) :=
  HCall.weak (with_c s l h) (leV_tup (leRV_cons (leV_patL _) (leRV_cons (leV.refl _) leRV_nil))) (refsA_pure _ (by show pureL _ = true; rw [pureL, pure_patL]; rfl) _)
noncomputable def D2 : Ctr Tryd.E := D1.add 17 (fun
    | [.str s, x] => some (okIs x && isWT s (rdIs x), withO s (rdIs x))
    | _ => none) (by
      intro args pre out h hp
      split at h
      · simp only [Option.some.injEq, Prod.mk.injEq] at h
        obtain ⟨rfl, rfl⟩ := h
        simp only [Bool.and_eq_true, isWT_iff] at hp
        rw [withO_eq hp.2]
        refine HCall.args (with_l _ _ hp.2) (by simp [pureL, pureA, okIs_pure hp.1]) fun ρ I w vs r => ?_
        obtain ⟨x, xs, rfl, k1, k2⟩ := RV_cons.1 r
        obtain ⟨y, ys, rfl, k3, k4⟩ := RV_cons.1 k2
        exact RV_cons.2 ⟨x, _, rfl, k1, RV_cons.2 ⟨y, ys, rfl, okIs_le hp.1 _ _ _ _ k3, k4⟩⟩
      · simp at h)
end Go.Proofs.YtcnnogimaikicaaDoor
