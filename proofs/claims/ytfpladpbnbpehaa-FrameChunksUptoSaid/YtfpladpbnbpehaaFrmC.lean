import Derived.Test.YtfpladpbnbpehaaFrmB
set_option linter.unusedSimpArgs false
set_option linter.unusedVariables false
namespace Go.Proofs.Ytfpladpbnbpehaa
open Go Go.V Go.Frm Classical
noncomputable def F1 : Ctr Try.E := (((F0.add 8 (fun
    | [.vecr false 4 n f] => some (isRaws n f, .ret (.vecr false 3 (min n 8) (frs (fsOf (rawsOf n f)))) [])
    | _ => none) (by
      intro args pre out h hp
      split at h
      · simp only [Option.some.injEq, Prod.mk.injEq] at h
        obtain ⟨rfl, rfl⟩ := h
        obtain ⟨l, rfl, rfl⟩ := isRaws_iff.1 hp
        rw [rawsOf_eq]
        exact framesOf_c l
      · simp at h)).add 10 (fun
    | [.agg [.int .i64 k, .int .i64 i, .vec8 _ b]] => some (true, .ret (.int .i64 (faultS k i b)) [])
    | _ => none) (by
      intro args pre out h hp
      split at h
      · simp only [Option.some.injEq, Prod.mk.injEq] at h
        obtain ⟨rfl, rfl⟩ := h
        exact fcheck_c _ _ _ _
      · simp at h)).add 9 (fun
    | [.agg [.int .i64 k, .int .i64 i, .vec8 _ b]] => some (true, .ret (.tup [.vec8 false (encS k i b), .int .i64 (faultS k i b)]) [])
    | _ => none) (by
      intro args pre out h hp
      split at h
      · simp only [Option.some.injEq, Prod.mk.injEq] at h
        obtain ⟨rfl, rfl⟩ := h
        exact fencode_c _ _ _ _
      · simp at h))
/-- The loop of Feed: how far it is, and the frames so far. -/
noncomputable def feedL (L : List UInt8) : LPlan := .mv [] [] (Nat × List Fr) (fun _ x => x.1 ≤ L.length ∧ x.2.length ≤ x.1 ∧ fdF L = (fdF (L.drop x.1)).pre x.2) (fun x => L.length - x.1) (fun s => [s.t.getD 8 .any])
  (fun n x => [(7, .sl 1 x.1 1 (L.length - x.1)), (8, .slv n 3 x.2.length (frs x.2))]) (fun _ x => [(1, .grow8 L [])]) (fun x => [.tail 3 x.2.length])
end Go.Proofs.Ytfpladpbnbpehaa
