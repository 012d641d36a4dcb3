import Derived.Test.YthoddhfiiilibaaGPolH
import Derived.Test.YthoddhfiiilibaaPolV
set_option linter.unusedSimpArgs false
set_option linter.unusedVariables false
namespace Go.Proofs.Ythoddhfiiilibaa
open Go Go.V Go.Fld Go.Pol
set_option maxRecDepth 100000
def rR (k : List UInt8) : List UInt64 := List.set (List.set [0, 0] 0 (halfF (List.take 8 k) &&& 1152921487695413247)) 1 (halfF (List.take 8 (List.drop 8 k)) &&& 1152921487695413244)
def padR (k : List UInt8) : List UInt64 := List.set (List.set [0, 0] 0 (halfF (List.take 8 (List.drop 16 k)))) 1 (halfF (List.drop 24 k))
theorem rR_eq (k : List UInt8) : rOf k = rR k := by unfold rOf rR; rw [halfS_eq, halfS_eq]
theorem padR_eq (k : List UInt8) : padOf k = padR k := by unfold padOf padR; rw [halfS_eq, halfS_eq]
def lastR (r : Nat) (s : PS) : Nat := if 0 < s.n then soakR r s.a s.h s.n else s.a
theorem lastR_eq (r : Nat) (s : PS) : lastP r s = lastR r s := by unfold lastP lastR soakN soakR; rw [partR_eq]
def endR (acc : Nat) (p : List UInt64) : List UInt8 :=
  let x2 : List UInt8 := [0, 0, 0, 0, 0, 0, 0, 0, 0, 0, 0, 0, 0, 0, 0, 0]
  let x4 : UInt64 := (List.getD (w3F acc) 0 0)
  let x5 : UInt64 := (List.getD p 0 0)
  let x6 : UInt64 := (carry64r x4 x5 0)
  let x7 : UInt64 := ((x4 + x5) + 0)
  let x9 : UInt64 := (((List.getD (w3F acc) 1 0) + (List.getD p 1 0)) + x6)
  (List.set (List.set (List.set (List.set (List.set (List.set (List.set (List.set (List.set (List.set (List.set (List.set (List.set (List.set (List.set (List.set x2 0 (UInt64.toUInt8 (shr64 x7 0))) 8 (UInt64.toUInt8 (shr64 x9 0))) 1 (UInt64.toUInt8 (shr64 x7 8))) 9 (UInt64.toUInt8 (shr64 x9 8))) 2 (UInt64.toUInt8 (shr64 x7 16))) 10 (UInt64.toUInt8 (shr64 x9 16))) 3 (UInt64.toUInt8 (shr64 x7 24))) 11 (UInt64.toUInt8 (shr64 x9 24))) 4 (UInt64.toUInt8 (shr64 x7 32))) 12 (UInt64.toUInt8 (shr64 x9 32))) 5 (UInt64.toUInt8 (shr64 x7 40))) 13 (UInt64.toUInt8 (shr64 x9 40))) 6 (UInt64.toUInt8 (shr64 x7 48))) 14 (UInt64.toUInt8 (shr64 x9 48))) 7 (UInt64.toUInt8 (shr64 x7 56))) 15 (UInt64.toUInt8 (shr64 x9 56)))
theorem endR_eq (acc : Nat) (p : List UInt64) : endS acc p = endR acc p := by
  rw [endS_eq]; unfold endF endR carry64r
  simp only [w3_eq, carry64_eq]
def tagR (k b : List UInt8) : List UInt8 := endR (lastR (v2F (rR k)) (addR (v2F (rR k)) ⟨0, zeros, 0⟩ b)) (padR k)
theorem tagR_eq (k b : List UInt8) : tagS k b = tagR k b := by
  rw [tagS_eq]; unfold tagF tagR
  rw [endR_eq, lastR_eq, addS_eq, addR_eq, rR_eq, padR_eq, v2_eq]

theorem polyTag_take : (tagS [133, 214, 190, 120, 87, 85, 109, 51, 127, 68, 82, 254, 66, 213, 6, 168, 1, 3, 128, 138, 251, 13, 178, 253, 74, 191, 246, 175, 65, 73, 245, 27] [67, 114, 121, 112, 116, 111, 103, 114, 97, 112, 104, 105, 99, 32, 70, 111, 114, 117, 109, 32, 82, 101, 115, 101, 97, 114, 99, 104, 32, 71, 114, 111, 117, 112]).take 8 = [168, 6, 29, 193, 48, 81, 54, 198] := by
  rw [tagR_eq]; kernel_rfl

theorem polyKnown_c (n : Int) (_h : -9223372036854775808 ≤ n ∧ n ≤ 9223372036854775807) : HCall Try.E 7 [.int .i64 n] (.ret (.bool true) []) := by
  refine HCall.of_walk (R := RS) (T := P5) (fun _ _ => .unroll 17) 5 rfl rfl ?_
  rw [polyKnown_eq]
  obtain ⟨i, hi, hlt⟩ : ∃ i : Nat, n % 8 = i ∧ i < 8 := ⟨(n % 8).toNat, by omega, by omega⟩
  rw [hi, inB_of (by omega) (by omega), inB_of (by omega) (by omega), ofs_eq, Int.toNat_natCast, Nat.zero_add]
  have e := polyTag_take
  refine ⟨?_, rfl⟩
  show AV.bool (((List.getD (tagS [133, 214, 190, 120, 87, 85, 109, 51, 127, 68, 82, 254, 66, 213, 6, 168, 1, 3, 128, 138, 251, 13, 178, 253, 74, 191, 246, 175, 65, 73, 245, 27] [67, 114, 121, 112, 116, 111, 103, 114, 97, 112, 104, 105, 99, 32, 70, 111, 114, 117, 109, 32, 82, 101, 115, 101, 97, 114, 99, 104, 32, 71, 114, 111, 117, 112]) i 0).toNat : Int) == (([168, 6, 29, 193, 48, 81, 54, 198] : List UInt8).getD i 0).toNat) = AV.bool true
  rw [← getD_take hlt, e, beq_self_eq_true]
end Go.Proofs.Ythoddhfiiilibaa
