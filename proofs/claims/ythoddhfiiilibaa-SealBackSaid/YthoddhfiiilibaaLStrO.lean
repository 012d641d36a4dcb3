import Derived.Test.YthoddhfiiilibaaGStrO
set_option linter.unusedSimpArgs false
set_option linter.unusedVariables false
namespace Go.Proofs.Ythoddhfiiilibaa
open Go Go.V Go.Cha
set_option maxRecDepth 100000
theorem over_c {k : Nat} (h : k < 5) (n : Nat) : overB (4294967295 - UInt32.ofNat (Int.toNat ((k : Int) % 4294967296))) n = ltB (k + 1) ((n + 63) / 64) := by
  rw [overB_eq]; unfold overF
  have e : Int.toNat ((k : Int) % 4294967296) = k := by omega
  rw [e, UInt32.toNat_sub, UInt32.toNat_ofNat']
  have e2 : (4294967295 : UInt32).toNat = 4294967295 := rfl
  rw [e2]
  have e3 : 4294967296 - (2 ^ 32 - k % 2 ^ 32 + 4294967295) % 2 ^ 32 = k + 1 := by omega
  rw [e3]

theorem streamOver_c (x0 : List UInt8) (x1 : Int) (_n1 : -9223372036854775808 ≤ x1 ∧ x1 ≤ 9223372036854775807) (x2 : Int) (_n2 : -9223372036854775808 ≤ x2 ∧ x2 ≤ 9223372036854775807) :
    HCall Try.E 5 [.b8 32 x0, .int .i64 x1, .int .i64 x2] (.ret (.bool true) []) := by
  refine HCall.of_walk (R := RS) (T := T4) (fun _ _ => .unroll 17) 5 rfl rfl ?_
  rw [over_eq]
  dsimp only
  obtain ⟨k, hk, hk5⟩ : ∃ k : Nat, x1 % 5 = k ∧ k < 5 := ⟨(x1 % 5).toNat, by omega, by omega⟩
  obtain ⟨m, hm, hm1⟩ : ∃ k : Nat, x2 % 100 = k ∧ k < 100 := ⟨(x2 % 100).toNat, by omega, by omega⟩
  rw [hk, hm]
  have e1 : wr .i64 (64 * wr .i64 ((k : Int) + 1)) = ((64 * (k + 1) : Nat) : Int) := by
    rw [wr_of (z := (k : Int) + 1) (by omega) (by omega), wr_of (by omega) (by omega)]; omega
  rw [e1]
  have e2 : wr .i64 (wr .i64 (((64 * (k + 1) : Nat) : Int) + 1) + (m : Int)) = ((64 * (k + 1) + 1 + m : Nat) : Int) := by
    rw [wr_of (z := ((64 * (k + 1) : Nat) : Int) + 1) (by omega) (by omega), wr_of (by omega) (by omega)]; omega
  rw [e2, Int.toNat_natCast, Int.toNat_natCast, over_c hk5, over_c hk5]
  simp only [List.drop_zero, List.length_take, List.length_replicate, Nat.min_self, Nat.mul_one, Nat.zero_add, beq_self_eq_true]
  rw [leB_of (a := 64 * (k + 1)) (b := 140737488355328) (by omega), leB_of (a := 64 * (k + 1)) (b := 64 * (k + 1)) (Nat.le_refl _), leB_of (a := 64 * (k + 1) + 1 + m) (b := 140737488355328) (by omega), leB_of (a := 64 * (k + 1) + 1 + m) (b := 64 * (k + 1) + 1 + m) (Nat.le_refl _),
    ltB_no (a := 1600) (b := 64 * (k + 1)) (by omega), ltB_no (a := 1600) (b := 64 * (k + 1) + 1 + m) (by omega), ltB_no (a := k + 1) (b := (64 * (k + 1) + 63) / 64) (by omega), ltB_of (a := k + 1) (b := (64 * (k + 1) + 1 + m + 63) / 64) (by omega)]
  have n1 : nnB ((64 * (k + 1) : Nat) : Int) = true := nnB_iff.2 (by omega)
  have n2 : nnB ((64 * (k + 1) + 1 + m : Nat) : Int) = true := nnB_iff.2 (by omega)
  rw [n1, n2]
  exact ⟨rfl, rfl⟩
end Go.Proofs.Ythoddhfiiilibaa
