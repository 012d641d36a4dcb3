import Derived.Test.YtcnnogimaikicaaDoorGTrdB
set_option linter.unusedSimpArgs false
set_option linter.unusedVariables false
namespace Go.Proofs.YtcnnogimaikicaaDoor
open Go Go.V Go.Pat
set_option maxRecDepth 100000
theorem patternFew_c (n : Int) (_hn : -9223372036854775808 ≤ n ∧ n ≤ 9223372036854775807) (turn : Int) (_ht : -9223372036854775808 ≤ turn ∧ turn ≤ 9223372036854775807) (token : Int) (_hk : -9223372036854775808 ≤ token ∧ token ≤ 9223372036854775807) : HCall Tryd.E 3 [.int .i64 n, .int .i64 turn, .int .i64 token] (.ret (.bool true) []) := by
  have h : n % 6 = 0 ∨ n % 6 = 1 ∨ n % 6 = 2 ∨ n % 6 = 3 ∨ n % 6 = 4 ∨ n % 6 = 5 := by omega
  rcases h with h | h | h | h | h | h
  · refine HCall.of_walk (R := R2) (T := pickK D3 0) (fun _ _ => .unroll 12) 9 rfl rfl ?_
    rw [dfew0_eq]
    try dsimp only
    rw [cnd_eq]
    refine ⟨by rw [h]; rfl, ?_⟩
    repeat' (first | exact ⟨rfl, rfl⟩ | refine ite2_iff.2 ⟨fun _ => ?_, fun _ => ?_⟩)
  · refine HCall.of_walk (R := R2) (T := pickK D3 1) (fun _ _ => .unroll 12) 9 rfl rfl ?_
    rw [dfew1_eq]
    try dsimp only
    rw [cnd_eq]
    refine ⟨by rw [h]; rfl, ?_⟩
    repeat' (first | exact ⟨rfl, rfl⟩ | refine ite2_iff.2 ⟨fun _ => ?_, fun _ => ?_⟩)
  · refine HCall.of_walk (R := R2) (T := pickK D3 2) (fun _ _ => .unroll 12) 9 rfl rfl ?_
    rw [dfew2_eq]
    try dsimp only
    rw [cnd_eq]
    refine ⟨by rw [h]; rfl, ?_⟩
    repeat' (first | exact ⟨rfl, rfl⟩ | refine ite2_iff.2 ⟨fun _ => ?_, fun _ => ?_⟩)
  · refine HCall.of_walk (R := R2) (T := pickK D3 3) (fun _ _ => .unroll 12) 9 rfl rfl ?_
    rw [dfew3_eq]
    try dsimp only
    rw [cnd_eq]
    refine ⟨by rw [h]; rfl, ?_⟩
    repeat' (first | exact ⟨rfl, rfl⟩ | refine ite2_iff.2 ⟨fun _ => ?_, fun _ => ?_⟩)
  · refine HCall.of_walk (R := R2) (T := pickK D3 4) (fun _ _ => .unroll 12) 9 rfl rfl ?_
    rw [dfew4_eq]
    try dsimp only
    rw [cnd_eq]
    refine ⟨by rw [h]; rfl, ?_⟩
    repeat' (first | exact ⟨rfl, rfl⟩ | refine ite2_iff.2 ⟨fun _ => ?_, fun _ => ?_⟩)
  · refine HCall.of_walk (R := R2) (T := pickK D3 5) (fun _ _ => .unroll 12) 9 rfl rfl ?_
    rw [dfew5_eq]
    try dsimp only
    rw [cnd_eq]
    refine ⟨by rw [h]; rfl, ?_⟩
    repeat' (first | exact ⟨rfl, rfl⟩ | refine ite2_iff.2 ⟨fun _ => ?_, fun _ => ?_⟩)
end Go.Proofs.YtcnnogimaikicaaDoor
