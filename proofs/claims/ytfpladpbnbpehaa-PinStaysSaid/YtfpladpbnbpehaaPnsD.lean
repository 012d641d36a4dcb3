import Derived.Test.YtfpladpbnbpehaaGPnsC2
set_option linter.unusedSimpArgs false
set_option linter.unusedVariables false
namespace Go.Proofs.Ytfpladpbnbpehaa
open Go Go.V Go.Pin
set_option maxRecDepth 100000
theorem one_row {nm key : List UInt8} {gone : Bool} : okOut (.ret (.vecr false 34 1 (pcs [⟨nm, key, gone⟩])) []) (.sl 0 0 34 1) [.grow 34 [.agg [.str nm, .b8 32 key, .bool gone]] []] := by
  refine okOut.cold (v' := .vec false 34 [.agg [.str nm, .b8 32 key, .bool gone]]) rfl ?_ rfl ⟨rfl, rfl⟩
  exact leV_rows (k := 34) [[.str nm, .b8 32 key, .bool gone]] (pcs [⟨nm, key, gone⟩]) (fun i hi => by
    obtain rfl : i = 0 := by simpa using hi
    rfl) (fun i hi => rfl)
theorem rot1_c (nm key k : List UInt8) (gone : Bool) : HCall Try.E 32 [.agg [.str nm, .b8 32 key, .bool gone], .vp [.b8 32 k] 0] (.ret (.vecr false 34 1 (pcs [⟨nm, k, false⟩])) []) := by
  refine HCall.of_walkC (R := R1) (T := P2) (fun _ _ => .unroll 2) 5 rfl rfl ?_
  rw [rot1_eq]
  exact one_row
theorem rev1_c (nm key : List UInt8) (gone : Bool) : HCall Try.E 34 [.agg [.str nm, .b8 32 key, .bool gone]] (.ret (.vecr false 34 1 (pcs [⟨nm, key, true⟩])) []) := by
  refine HCall.of_walkC (R := R1) (T := P2) (fun _ _ => .unroll 2) 5 rfl rfl ?_
  rw [rev1_eq]
  exact one_row
theorem for1_c (nm key : List UInt8) (gone : Bool) : HCall Try.E 33 [.agg [.str nm, .b8 32 key, .bool gone]] (.ret (.vecr false 34 0 (pcs [])) []) := by
  refine HCall.of_walkC (R := R1) (T := P2) (fun _ _ => .unroll 2) 5 rfl rfl ?_
  rw [for1_eq]
  exact okOut.cold (v' := .vec8 true []) rfl (leV_nil rfl) rfl ⟨rfl, rfl⟩
noncomputable def P3 : Ctr Try.E := ((P2.add 32 (fun
    | [.agg [.str nm, .b8 32 _, .bool _], .vp [.b8 32 k] 0] => some (true, .ret (.vecr false 34 1 (pcs [⟨nm, k, false⟩])) [])
    | _ => none) (by
      intro args pre out h hp
      split at h
      · simp only [Option.some.injEq, Prod.mk.injEq] at h
        obtain ⟨rfl, rfl⟩ := h
        exact rot1_c _ _ _ _
      · simp at h)).add 34 (fun
    | [.agg [.str nm, .b8 32 key, .bool _]] => some (true, .ret (.vecr false 34 1 (pcs [⟨nm, key, true⟩])) [])
    | _ => none) (by
      intro args pre out h hp
      split at h
      · simp only [Option.some.injEq, Prod.mk.injEq] at h
        obtain ⟨rfl, rfl⟩ := h
        exact rev1_c _ _ _
      · simp at h)).add 33 (fun
    | [.agg [.str _, .b8 32 _, .bool _]] => some (true, .ret (.vecr false 34 0 (pcs [])) [])
    | _ => none) (by
      intro args pre out h hp
      split at h
      · simp only [Option.some.injEq, Prod.mk.injEq] at h
        obtain ⟨rfl, rfl⟩ := h
        exact for1_c _ _ _
      · simp at h)
end Go.Proofs.Ytfpladpbnbpehaa
