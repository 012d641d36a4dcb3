import Derived.Test.YtfpladpbnbpehaaGUkey
set_option linter.unusedSimpArgs false
set_option linter.unusedVariables false
namespace Go.Proofs.Ytfpladpbnbpehaa
open Go Go.V Go.Pin
set_option maxRecDepth 100000
theorem add0 (x : UInt8) : x + 0 = x := UInt8.add_zero x
theorem ukey_c (n : Int) : HCall Try.E 17 [.int .i64 n] (.ret (.b8 32 (keyS n)) []) := by
  refine HCall.of_walk (R := ROps.rows Try.E) (T := Ctr.nil Try.E) (fun _ _ => .unroll 34) 5 rfl rfl ?_
  rw [ukey_eq, keyS_eq]
  dsimp only
  rw [add0]
  refine ⟨?_, rfl⟩
  kernel_rfl
noncomputable def Ukey : Ctr Try.E := (Ctr.nil Try.E).add 17 (fun
    | [.int .i64 n] => some (true, .ret (.b8 32 (keyS n)) [])
    | _ => none) (by
      intro args pre out h hp
      split at h
      · simp only [Option.some.injEq, Prod.mk.injEq] at h
        obtain ⟨rfl, rfl⟩ := h
        exact ukey_c _
      · simp at h)
end Go.Proofs.Ytfpladpbnbpehaa
