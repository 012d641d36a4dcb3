import Derived.Test.YtfpladpbnbpehaaGUcut
import Derived.Test.YtfpladpbnbpehaaUT
set_option linter.unusedSimpArgs false
set_option linter.unusedVariables false
namespace Go.Proofs.Ytfpladpbnbpehaa
open Go Go.V
set_option maxRecDepth 100000
theorem ucut_c (s : List UInt8) (m : Int) (hm : 0 ≤ m) : HCall Try.E 27 [.str s, .int .i64 m] (.ret (.str (s.take m.toNat)) []) := by
  refine HCall.of_walk (R := ROps.rows Try.E) (T := Ctr.nil Try.E) (fun _ _ => .unroll 17) 5 rfl rfl ?_
  rw [ucut_eq]
  dsimp only
  rw [ucutOk _ _ hm, ucutL _ _ hm]
  exact ⟨rfl, rfl⟩
noncomputable def Ucut : Ctr Try.E := (Ctr.nil Try.E).add 27 (fun
    | [.str s, .int .i64 m] => some (nnB m, .ret (.str (s.take m.toNat)) [])
    | _ => none) (by
      intro args pre out h hp
      split at h
      · simp only [Option.some.injEq, Prod.mk.injEq] at h
        obtain ⟨rfl, rfl⟩ := h
        exact ucut_c _ _ (nnB_iff.1 hp)
      · simp at h)
end Go.Proofs.Ytfpladpbnbpehaa
