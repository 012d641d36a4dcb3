import Derived.Test.YtfpladpbnbpehaaGUsome
import Derived.Test.YtfpladpbnbpehaaUT
set_option linter.unusedSimpArgs false
set_option linter.unusedVariables false
namespace Go.Proofs.Ytfpladpbnbpehaa
open Go Go.V
set_option maxRecDepth 100000
theorem usome_c (full : Bool) (n : Nat) (f : Nat → List AV) (m : Int) (hm : 0 ≤ m) : HCall Try.E 26 [.vecr full 4 n f, .int .i64 m] (.ret (.vecr false 4 (min n m.toNat) f) []) := by
  refine HCall.of_walk (R := ROps.rows Try.E) (T := Ctr.nil Try.E) (fun _ _ => .unroll 17) 5 rfl rfl ?_
  rw [usome_eq]
  dsimp only
  have e3 : (fun i => f (loN none + i)) = f := by
    funext i
    show f (0 + i) = f i
    rw [Nat.zero_add]
  rw [usomeOk n m hm, usomeN n m hm, e3, Bool.and_false]
  exact ⟨rfl, rfl⟩
noncomputable def Usome : Ctr Try.E := (Ctr.nil Try.E).add 26 (fun
    | [.vecr _ 4 n f, .int .i64 m] => some (nnB m, .ret (.vecr false 4 (min n m.toNat) f) [])
    | _ => none) (by
      intro args pre out h hp
      split at h
      · simp only [Option.some.injEq, Prod.mk.injEq] at h
        obtain ⟨rfl, rfl⟩ := h
        exact usome_c _ _ _ _ (nnB_iff.1 hp)
      · simp at h)
end Go.Proofs.Ytfpladpbnbpehaa
