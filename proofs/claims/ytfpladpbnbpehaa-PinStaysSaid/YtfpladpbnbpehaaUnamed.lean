import Derived.Test.YtfpladpbnbpehaaGUnamed
set_option linter.unusedSimpArgs false
set_option linter.unusedVariables false
namespace Go.Proofs.Ytfpladpbnbpehaa
open Go Go.V Go.Pin
set_option maxRecDepth 100000
theorem unamed_c (n : Int) : HCall Try.E 16 [.int .i64 n] (.ret (.str (namedS n)) []) := by
  refine HCall.of_walk (R := ROps.rows Try.E) (T := Upicked) (fun _ _ => .unroll 34) 5 rfl rfl ?_
  rw [unamed_eq, namedS_eq]
  have h1 := Int.emod_nonneg n (show (2 : Int) ≠ 0 by omega)
  have h2 := Int.emod_lt_of_pos n (show (0 : Int) < 2 by omega)
  have hw : wr .i64 (1 + n % 2) = 1 + n % 2 := wr_of (by omega) (by omega)
  rw [hw]
  have hs : sliceOk none (some (1 + n % 2)) 2 = true := by
    show (nnB _ && leB (Int.toNat _) _) = true
    rw [nnB_iff.2 (by omega), leB_of (by omega)]; rfl
  rw [hs]
  exact ⟨rfl, rfl⟩
noncomputable def Unamed : Ctr Try.E := (Ctr.nil Try.E).add 16 (fun
    | [.int .i64 n] => some (true, .ret (.str (namedS n)) [])
    | _ => none) (by
      intro args pre out h hp
      split at h
      · simp only [Option.some.injEq, Prod.mk.injEq] at h
        obtain ⟨rfl, rfl⟩ := h
        exact unamed_c _
      · simp at h)
end Go.Proofs.Ytfpladpbnbpehaa
