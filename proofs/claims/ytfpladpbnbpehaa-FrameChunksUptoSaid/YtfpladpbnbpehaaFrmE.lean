import Derived.Test.YtfpladpbnbpehaaFrmD
set_option linter.unusedSimpArgs false
set_option linter.unusedVariables false
namespace Go.Proofs.Ytfpladpbnbpehaa
open Go Go.V Go.Frm
noncomputable def F2 : Ctr Try.E := F1.add 12 (fun
    | [.vec8 _ h, .vec8 _ b] => some (leB (h.length + b.length) 1000000000, feedO h b)
    | _ => none) (by
      intro args pre out h hp
      split at h
      · simp only [Option.some.injEq, Prod.mk.injEq] at h
        obtain ⟨rfl, rfl⟩ := h
        exact ffeed_c _ _ _ _ (leB_iff.1 hp)
      · simp at h)
/-- The loop of sameFrames: those so far are the same. -/
noncomputable def sameL (A B : List Fr) : LPlan := .mv [0, 1, 12] [12] Nat (fun g i => Inv.upTo g i ∧ ∀ j, j < i → A.getD j fr0 = B.getD j fr0) Inv.up (fun _ => []) (fun _ i => [(13, .int .i64 ((i : Nat) : Int))]) (fun _ _ => []) (fun _ => [])
end Go.Proofs.Ytfpladpbnbpehaa
