import Derived.Test.YtfpladpbnbpehaaGPnsA
set_option linter.unusedSimpArgs false
set_option linter.unusedVariables false
namespace Go.Proofs.Ytfpladpbnbpehaa
open Go Go.V Go.Pin
set_option maxRecDepth 100000
theorem pname_c (s : List UInt8) : HCall Try.E 30 [.str s] (.ret (.bool (nameOk s)) []) := by
  refine HCall.of_walk (R := R1) (T := P0) (fun _ _ => .unroll 2) 5 rfl rfl ?_
  rw [pname_eq]
  dsimp only
  refine ite2_iff.2 ⟨fun h => ⟨?_, rfl⟩, fun h => ⟨?_, rfl⟩⟩
  · have h : 1 ≤ s.length := by
      have := of_ltI_no (by simpa using h); omega
    unfold nameOk
    rw [leB_of h, cond_true, Bool.true_and]
    rcases Nat.lt_or_ge 16 s.length with k | k
    · rw [ltI_of (by omega), leB_no k]; rfl
    · rw [ltI_no (by omega), leB_of k]; rfl
  · have h : s.length < 1 := by
      have := of_ltI (by simpa using h); omega
    unfold nameOk
    rw [leB_no h]; rfl
noncomputable def P1 : Ctr Try.E := P0.add 30 (fun
    | [.str s] => some (true, .ret (.bool (nameOk s)) [])
    | _ => none) (by
      intro args pre out h hp
      split at h
      · simp only [Option.some.injEq, Prod.mk.injEq] at h
        obtain ⟨rfl, rfl⟩ := h
        exact pname_c _
      · simp at h)
noncomputable def checkL (L : List Pn) : LPlan := .mv [0, 8, 9] [9] Nat (fun g i => Inv.upTo g i ∧ ∀ j, j < i → pinOk L j = true) Inv.up (fun _ => []) (fun _ i => [(10, .int .i64 ((i : Nat) : Int))]) (fun _ _ => []) (fun _ => [])
noncomputable def searchL (L : List Pn) (s : List UInt8) : LPlan := .mv [0, 1] [] (Nat × Nat) (fun _ x => x.1 ≤ posP L s ∧ posP L s ≤ x.2 ∧ x.2 ≤ L.length) (fun x => x.2 - x.1) (fun _ => []) (fun _ x => [(5, .int .i64 ((x.1 : Nat) : Int)), (6, .int .i64 ((x.2 : Nat) : Int))]) (fun _ _ => []) (fun _ => [])
end Go.Proofs.Ytfpladpbnbpehaa
