import Derived.Test.YthoddhfiiilibaaGChaD
set_option linter.unusedSimpArgs false
set_option linter.unusedVariables false
namespace Go.Proofs.Ythoddhfiiilibaa
open Go Go.V Go.Cha
set_option maxRecDepth 100000

theorem known_take : (blockS [0, 1, 2, 3, 4, 5, 6, 7, 8, 9, 10, 11, 12, 13, 14, 15, 16, 17, 18, 19, 20, 21, 22, 23, 24, 25, 26, 27, 28, 29, 30, 31] 1 [0, 0, 0, 9, 0, 0, 0, 74, 0, 0, 0, 0]).take 8 = [16, 241, 231, 228, 209, 59, 89, 21] := by
  rw [blockS_eq]; kernel_rfl

theorem chachaKnown_c (n : Int) (_h : -9223372036854775808 ≤ n ∧ n ≤ 9223372036854775807) : HCall Try.E 3 [.int .i64 n] (.ret (.bool true) []) := by
  refine HCall.of_walk (R := RS) (T := T3) (fun _ _ => .unroll 33) 5 rfl rfl ?_
  rw [chaKnown_eq]
  obtain ⟨i, hi, hlt⟩ : ∃ i : Nat, n % 8 = i ∧ i < 8 := ⟨(n % 8).toNat, by omega, by omega⟩
  rw [hi, inB_of (by omega) (by omega), inB_of (by omega) (by omega), ofs_eq, Int.toNat_natCast, Nat.zero_add]
  have e := known_take
  refine ⟨?_, rfl⟩
  show AV.bool (((List.getD (blockS [0, 1, 2, 3, 4, 5, 6, 7, 8, 9, 10, 11, 12, 13, 14, 15, 16, 17, 18, 19, 20, 21, 22, 23, 24, 25, 26, 27, 28, 29, 30, 31] 1 [0, 0, 0, 9, 0, 0, 0, 74, 0, 0, 0, 0]) i 0).toNat : Int) == (([16, 241, 231, 228, 209, 59, 89, 21] : List UInt8).getD i 0).toNat) = AV.bool true
  rw [← getD_take hlt, e, beq_self_eq_true]
end Go.Proofs.Ythoddhfiiilibaa
