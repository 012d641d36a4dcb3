import Derived.Test.YtfjmpdoidkblcaaDoorFldD
set_option linter.unusedSimpArgs false
set_option linter.unusedVariables false
namespace Go.Proofs.YtfjmpdoidkblcaaDoor
open Go Go.Ab Go.Fld

theorem take4_u64s (a b c d : UInt64) : (u64s [a, b, c, d]).take 4 = u64s [a, b, c, d] := rfl

set_option maxHeartbeats 4000000 in
set_option maxRecDepth 10000 in
theorem sub_f {a b : Nat} (ha : a < prm) (hb : b < prm) : FCall Tryd.prog GL 28 [.agg (fe a), .agg (fe b)] (.agg (fe ((a + prm - b) % prm))) := by
  have hp : prm < top := by decide
  have la := Nat.lt_trans ha hp
  have lb := Nat.lt_trans hb hp
  refine FCall.of_acall ?_ ?_ ?_
  · exact PureL_cons (Pure_fe _) (PureL_cons (Pure_fe _) PureL_nil)
  · exact Pure_fe _
  · refine ACall.of_body Tryd.func28 rfl ?_
    simp only [push_cast, reduceCtorEq, reduceIte, Nat.reduceAdd, Nat.reduceSub, Nat.reduceMul, Nat.reduceLT, Nat.reduceLeDiff, Nat.reduceEqDiff, Nat.reduceBEq, Int.reduceLT, Int.reduceLE, Int.reduceToNat, Int.reduceAdd, Int.reduceMul, Int.reduceNeg, Int.reduceSub, UInt64.reduceOfNat, UInt32.reduceOfNat, UInt8.reduceOfNat, UInt64.reduceToNat, UInt32.reduceToNat, UInt8.reduceToNat, Int.reduceEq, Int.reduceNe, Int.reduceTDiv, Int.reduceTMod, Int.reduceBNe, Int.reduceBEq, Nat.reduceBNe, Tryd.ntmps28, length_fe, all_fe, take_fe, splice_fe]
    have h := less_f la lb
    by_cases hab : a < b
    · rw [if_pos hab, decide_eq_true hab] at h
      refine ACall.of_f h ?_
      have ld : a + top - b < top := by omega
      obtain ⟨d0, d1, d2, d3, hd⟩ := val_ex ld
      rw [hd, fe_val]
      simp only [push_cast, reduceCtorEq, reduceIte, Nat.reduceAdd, Nat.reduceSub, Nat.reduceMul, Nat.reduceLT, Nat.reduceLeDiff, Nat.reduceEqDiff, Nat.reduceBEq, Int.reduceLT, Int.reduceLE, Int.reduceToNat, Int.reduceAdd, Int.reduceMul, Int.reduceNeg, Int.reduceSub, UInt64.reduceOfNat, UInt32.reduceOfNat, UInt8.reduceOfNat, UInt64.reduceToNat, UInt32.reduceToNat, UInt8.reduceToNat, Int.reduceEq, Int.reduceNe, Int.reduceTDiv, Int.reduceTMod, Int.reduceBNe, Int.reduceBEq, Nat.reduceBNe, length_fe, all_fe, take_fe, splice_fe]
      refine Tri.rounds 5 ?_
      rw [awR_succ]
      simp only [push_cast, reduceCtorEq, reduceIte, Nat.reduceAdd, Nat.reduceSub, Nat.reduceMul, Nat.reduceLT, Nat.reduceLeDiff, Nat.reduceEqDiff, Nat.reduceBEq, Int.reduceLT, Int.reduceLE, Int.reduceToNat, Int.reduceAdd, Int.reduceMul, Int.reduceNeg, Int.reduceSub, UInt64.reduceOfNat, UInt32.reduceOfNat, UInt8.reduceOfNat, UInt64.reduceToNat, UInt32.reduceToNat, UInt8.reduceToNat, Int.reduceEq, Int.reduceNe, Int.reduceTDiv, Int.reduceTMod, Int.reduceBNe, Int.reduceBEq, Nat.reduceBNe, length_fe, all_fe, take_fe, splice_fe]
      refine ⟨by kernel_rfl, ?_⟩
      rw [awR_succ]
      simp only [push_cast, reduceCtorEq, reduceIte, Nat.reduceAdd, Nat.reduceSub, Nat.reduceMul, Nat.reduceLT, Nat.reduceLeDiff, Nat.reduceEqDiff, Nat.reduceBEq, Int.reduceLT, Int.reduceLE, Int.reduceToNat, Int.reduceAdd, Int.reduceMul, Int.reduceNeg, Int.reduceSub, UInt64.reduceOfNat, UInt32.reduceOfNat, UInt8.reduceOfNat, UInt64.reduceToNat, UInt32.reduceToNat, UInt8.reduceToNat, Int.reduceEq, Int.reduceNe, Int.reduceTDiv, Int.reduceTMod, Int.reduceBNe, Int.reduceBEq, Nat.reduceBNe, length_fe, all_fe, take_fe, splice_fe]
      refine ⟨by kernel_rfl, ?_⟩
      rw [awR_succ]
      simp only [push_cast, reduceCtorEq, reduceIte, Nat.reduceAdd, Nat.reduceSub, Nat.reduceMul, Nat.reduceLT, Nat.reduceLeDiff, Nat.reduceEqDiff, Nat.reduceBEq, Int.reduceLT, Int.reduceLE, Int.reduceToNat, Int.reduceAdd, Int.reduceMul, Int.reduceNeg, Int.reduceSub, UInt64.reduceOfNat, UInt32.reduceOfNat, UInt8.reduceOfNat, UInt64.reduceToNat, UInt32.reduceToNat, UInt8.reduceToNat, Int.reduceEq, Int.reduceNe, Int.reduceTDiv, Int.reduceTMod, Int.reduceBNe, Int.reduceBEq, Nat.reduceBNe, length_fe, all_fe, take_fe, splice_fe]
      refine ⟨by kernel_rfl, ?_⟩
      rw [awR_succ]
      simp only [push_cast, reduceCtorEq, reduceIte, Nat.reduceAdd, Nat.reduceSub, Nat.reduceMul, Nat.reduceLT, Nat.reduceLeDiff, Nat.reduceEqDiff, Nat.reduceBEq, Int.reduceLT, Int.reduceLE, Int.reduceToNat, Int.reduceAdd, Int.reduceMul, Int.reduceNeg, Int.reduceSub, UInt64.reduceOfNat, UInt32.reduceOfNat, UInt8.reduceOfNat, UInt64.reduceToNat, UInt32.reduceToNat, UInt8.reduceToNat, Int.reduceEq, Int.reduceNe, Int.reduceTDiv, Int.reduceTMod, Int.reduceBNe, Int.reduceBEq, Nat.reduceBNe, length_fe, all_fe, take_fe, splice_fe]
      refine ⟨by kernel_rfl, ?_⟩
      rw [awR_succ]
      simp only [push_cast, reduceCtorEq, reduceIte, Nat.reduceAdd, Nat.reduceSub, Nat.reduceMul, Nat.reduceLT, Nat.reduceLeDiff, Nat.reduceEqDiff, Nat.reduceBEq, Int.reduceLT, Int.reduceLE, Int.reduceToNat, Int.reduceAdd, Int.reduceMul, Int.reduceNeg, Int.reduceSub, UInt64.reduceOfNat, UInt32.reduceOfNat, UInt8.reduceOfNat, UInt64.reduceToNat, UInt32.reduceToNat, UInt8.reduceToNat, Int.reduceEq, Int.reduceNe, Int.reduceTDiv, Int.reduceTMod, Int.reduceBNe, Int.reduceBEq, Nat.reduceBNe, length_fe, all_fe, take_fe, splice_fe]
      obtain ⟨c, hc, hc1, hv⟩ := add_val d0 d1 d2 d3 18446744073709551597 18446744073709551615 18446744073709551615 9223372036854775807 0 (by decide)
      have e : val 18446744073709551597 18446744073709551615 18446744073709551615 9223372036854775807 = prm := by decide
      rw [e, ← hd] at hv
      have ll := val_lt (d0 + 18446744073709551597 + 0) (d1 + 18446744073709551615 + carry64 d0 18446744073709551597 0) (d2 + 18446744073709551615 + carry64 d1 18446744073709551615 (carry64 d0 18446744073709551597 0)) (d3 + 9223372036854775807 + carry64 d2 18446744073709551615 (carry64 d1 18446744073709551615 (carry64 d0 18446744073709551597 0)))
      simp only [Tryd.f28, push_cast, reduceCtorEq, reduceIte, Nat.reduceAdd, Nat.reduceSub, Nat.reduceMul, Nat.reduceLT, Nat.reduceLeDiff, Nat.reduceEqDiff, Nat.reduceBEq, Int.reduceLT, Int.reduceLE, Int.reduceToNat, Int.reduceAdd, Int.reduceMul, Int.reduceNeg, Int.reduceSub, UInt64.reduceOfNat, UInt32.reduceOfNat, UInt8.reduceOfNat, UInt64.reduceToNat, UInt32.reduceToNat, UInt8.reduceToNat, Int.reduceEq, Int.reduceNe, Int.reduceTDiv, Int.reduceTMod, Int.reduceBNe, Int.reduceBEq, Nat.reduceBNe, length_fe, all_fe, take_fe, splice_fe]
      rw [← fe_val, Nat.mod_eq_of_lt (by omega)]
      generalize val (d0 + 18446744073709551597 + 0) _ _ _ = r at *
      have z0 : (0 : UInt64).toNat = 0 := rfl
      have z : c = 0 ∨ c = 1 := by omega
      rcases z with rfl | rfl
      · omega
      · rw [show r = a + prm - b by omega]
    · rw [if_neg hab, decide_eq_false hab] at h
      refine ACall.of_f h ?_
      simp only [Tryd.f28, push_cast, reduceCtorEq, reduceIte, Nat.reduceAdd, Nat.reduceSub, Nat.reduceMul, Nat.reduceLT, Nat.reduceLeDiff, Nat.reduceEqDiff, Nat.reduceBEq, Int.reduceLT, Int.reduceLE, Int.reduceToNat, Int.reduceAdd, Int.reduceMul, Int.reduceNeg, Int.reduceSub, UInt64.reduceOfNat, UInt32.reduceOfNat, UInt8.reduceOfNat, UInt64.reduceToNat, UInt32.reduceToNat, UInt8.reduceToNat, Int.reduceEq, Int.reduceNe, Int.reduceTDiv, Int.reduceTMod, Int.reduceBNe, Int.reduceBEq, Nat.reduceBNe, length_fe, all_fe, take_fe, splice_fe]
      rw [show a + prm - b = (a - b) + prm by omega, Nat.add_mod_right, Nat.mod_eq_of_lt (by omega)]
end Go.Proofs.YtfjmpdoidkblcaaDoor
