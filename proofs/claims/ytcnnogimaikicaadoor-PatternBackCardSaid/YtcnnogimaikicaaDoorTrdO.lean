import Derived.Test.YtcnnogimaikicaaDoorGTrdM
set_option linter.unusedSimpArgs false
set_option linter.unusedVariables false
namespace Go.Proofs.YtcnnogimaikicaaDoor
open Go Go.V Go.Pat
set_option maxRecDepth 100000
theorem patternBack_c (n : Int) (_hn : -9223372036854775808 ≤ n ∧ n ≤ 9223372036854775807) (mask : Int) (_hm : -9223372036854775808 ≤ mask ∧ mask ≤ 9223372036854775807) : HCall Tryd.E 6 [.int .i64 n, .int .i64 mask] (.ret (.bool true) []) := by
  have h : n % 6 = 0 ∨ n % 6 = 1 ∨ n % 6 = 2 ∨ n % 6 = 3 ∨ n % 6 = 4 ∨ n % 6 = 5 := by omega
  rcases h with h | h | h | h | h | h
  · refine HCall.of_walk (R := R3) (T := pickK D5 0) (fun _ _ => .unroll 12) 9 rfl rfl ?_
    rw [dback0_eq]
    try dsimp only
    rw [cnd_eq]
    refine ⟨by rw [h]; rfl, ?_⟩
    repeat' (first | exact ⟨rfl, rfl⟩ | refine ite2_iff.2 ⟨fun _ => ?_, fun _ => ?_⟩)
  · refine HCall.of_walk (R := R3) (T := pickK D5 1) (fun _ _ => .unroll 12) 9 rfl rfl ?_
    rw [dback1_eq]
    try dsimp only
    rw [cnd_eq]
    refine ⟨by rw [h]; rfl, ?_⟩
    repeat' (first | exact ⟨rfl, rfl⟩ | refine ite2_iff.2 ⟨fun _ => ?_, fun _ => ?_⟩)
  · refine HCall.of_walk (R := R3) (T := pickK D5 2) (fun _ _ => .unroll 12) 9 rfl rfl ?_
    rw [dback2_eq]
    try dsimp only
    rw [cnd_eq]
    refine ⟨by rw [h]; rfl, ?_⟩
    repeat' (first | exact ⟨rfl, rfl⟩ | refine ite2_iff.2 ⟨fun _ => ?_, fun _ => ?_⟩)
  · refine HCall.of_walk (R := R3) (T := pickK D5 3) (fun _ _ => .unroll 12) 9 rfl rfl ?_
    rw [dback3_eq]
    try dsimp only
    rw [cnd_eq]
    refine ⟨by rw [h]; rfl, ?_⟩
    repeat' (first | exact ⟨rfl, rfl⟩ | refine ite2_iff.2 ⟨fun _ => ?_, fun _ => ?_⟩)
  · refine HCall.of_walk (R := R3) (T := pickK D5 4) (fun _ _ => .unroll 12) 9 rfl rfl ?_
    rw [dback4_eq]
    try dsimp only
    rw [cnd_eq]
    refine ⟨by rw [h]; rfl, ?_⟩
    repeat' (first | exact ⟨rfl, rfl⟩ | refine ite2_iff.2 ⟨fun _ => ?_, fun _ => ?_⟩)
  · refine HCall.of_walk (R := R3) (T := pickK D5 5) (fun _ _ => .unroll 12) 9 rfl rfl ?_
    rw [dback5_eq]
    try dsimp only
    rw [cnd_eq]
    refine ⟨by rw [h]; rfl, ?_⟩
    repeat' (first | exact ⟨rfl, rfl⟩ | refine ite2_iff.2 ⟨fun _ => ?_, fun _ => ?_⟩)
end Go.Proofs.YtcnnogimaikicaaDoor
