import Derived.Test.YtfjmpdoidkblcaaDoorFldC
set_option linter.unusedSimpArgs false
set_option linter.unusedVariables false
namespace Go.Proofs.YtfjmpdoidkblcaaDoor
open Go Go.Ab Go.Fld

set_option maxHeartbeats 4000000 in
set_option maxRecDepth 10000 in
theorem add_w (a0 a1 a2 a3 b0 b1 b2 b3 : UInt64) : FCall Tryd.prog GL 26 [.agg (u64s [a0, a1, a2, a3]), .agg (u64s [b0, b1, b2, b3])] (.agg (fe ((val a0 a1 a2 a3 + val b0 b1 b2 b3) % prm))) := by
  refine FCall.of_acall ?_ ?_ ?_
  · exact PureL_cons (Pure_agg (PureL_u64s _)) (PureL_cons (Pure_agg (PureL_u64s _)) PureL_nil)
  · exact Pure_fe _
  · refine ACall.of_body Tryd.func26 rfl ?_
    simp only [push_cast, reduceCtorEq, reduceIte, Nat.reduceAdd, Nat.reduceSub, Nat.reduceMul, Nat.reduceLT, Nat.reduceLeDiff, Nat.reduceEqDiff, Nat.reduceBEq, Int.reduceLT, Int.reduceLE, Int.reduceToNat, Int.reduceAdd, Int.reduceMul, Int.reduceNeg, Int.reduceSub, UInt64.reduceOfNat, UInt32.reduceOfNat, UInt8.reduceOfNat, UInt64.reduceToNat, UInt32.reduceToNat, UInt8.reduceToNat, Int.reduceEq, Int.reduceNe, Int.reduceTDiv, Int.reduceTMod, Int.reduceBNe, Int.reduceBEq, Nat.reduceBNe, Tryd.ntmps26, ← fe_prm, length_fe, all_fe, take_fe, splice_fe]
    refine Tri.rounds 5 ?_
    rw [awR_succ]
    simp only [push_cast, reduceCtorEq, reduceIte, Nat.reduceAdd, Nat.reduceSub, Nat.reduceMul, Nat.reduceLT, Nat.reduceLeDiff, Nat.reduceEqDiff, Nat.reduceBEq, Int.reduceLT, Int.reduceLE, Int.reduceToNat, Int.reduceAdd, Int.reduceMul, Int.reduceNeg, Int.reduceSub, UInt64.reduceOfNat, UInt32.reduceOfNat, UInt8.reduceOfNat, UInt64.reduceToNat, UInt32.reduceToNat, UInt8.reduceToNat, Int.reduceEq, Int.reduceNe, Int.reduceTDiv, Int.reduceTMod, Int.reduceBNe, Int.reduceBEq, Nat.reduceBNe, ← fe_prm, length_fe, all_fe, take_fe, splice_fe]
    refine ⟨by kernel_rfl, ?_⟩
    rw [awR_succ]
    simp only [push_cast, reduceCtorEq, reduceIte, Nat.reduceAdd, Nat.reduceSub, Nat.reduceMul, Nat.reduceLT, Nat.reduceLeDiff, Nat.reduceEqDiff, Nat.reduceBEq, Int.reduceLT, Int.reduceLE, Int.reduceToNat, Int.reduceAdd, Int.reduceMul, Int.reduceNeg, Int.reduceSub, UInt64.reduceOfNat, UInt32.reduceOfNat, UInt8.reduceOfNat, UInt64.reduceToNat, UInt32.reduceToNat, UInt8.reduceToNat, Int.reduceEq, Int.reduceNe, Int.reduceTDiv, Int.reduceTMod, Int.reduceBNe, Int.reduceBEq, Nat.reduceBNe, ← fe_prm, length_fe, all_fe, take_fe, splice_fe]
    refine ⟨by kernel_rfl, ?_⟩
    rw [awR_succ]
    simp only [push_cast, reduceCtorEq, reduceIte, Nat.reduceAdd, Nat.reduceSub, Nat.reduceMul, Nat.reduceLT, Nat.reduceLeDiff, Nat.reduceEqDiff, Nat.reduceBEq, Int.reduceLT, Int.reduceLE, Int.reduceToNat, Int.reduceAdd, Int.reduceMul, Int.reduceNeg, Int.reduceSub, UInt64.reduceOfNat, UInt32.reduceOfNat, UInt8.reduceOfNat, UInt64.reduceToNat, UInt32.reduceToNat, UInt8.reduceToNat, Int.reduceEq, Int.reduceNe, Int.reduceTDiv, Int.reduceTMod, Int.reduceBNe, Int.reduceBEq, Nat.reduceBNe, ← fe_prm, length_fe, all_fe, take_fe, splice_fe]
    refine ⟨by kernel_rfl, ?_⟩
    rw [awR_succ]
    simp only [push_cast, reduceCtorEq, reduceIte, Nat.reduceAdd, Nat.reduceSub, Nat.reduceMul, Nat.reduceLT, Nat.reduceLeDiff, Nat.reduceEqDiff, Nat.reduceBEq, Int.reduceLT, Int.reduceLE, Int.reduceToNat, Int.reduceAdd, Int.reduceMul, Int.reduceNeg, Int.reduceSub, UInt64.reduceOfNat, UInt32.reduceOfNat, UInt8.reduceOfNat, UInt64.reduceToNat, UInt32.reduceToNat, UInt8.reduceToNat, Int.reduceEq, Int.reduceNe, Int.reduceTDiv, Int.reduceTMod, Int.reduceBNe, Int.reduceBEq, Nat.reduceBNe, ← fe_prm, length_fe, all_fe, take_fe, splice_fe]
    refine ⟨by kernel_rfl, ?_⟩
    rw [awR_succ]
    simp only [push_cast, reduceCtorEq, reduceIte, Nat.reduceAdd, Nat.reduceSub, Nat.reduceMul, Nat.reduceLT, Nat.reduceLeDiff, Nat.reduceEqDiff, Nat.reduceBEq, Int.reduceLT, Int.reduceLE, Int.reduceToNat, Int.reduceAdd, Int.reduceMul, Int.reduceNeg, Int.reduceSub, UInt64.reduceOfNat, UInt32.reduceOfNat, UInt8.reduceOfNat, UInt64.reduceToNat, UInt32.reduceToNat, UInt8.reduceToNat, Int.reduceEq, Int.reduceNe, Int.reduceTDiv, Int.reduceTMod, Int.reduceBNe, Int.reduceBEq, Nat.reduceBNe, ← fe_prm, length_fe, all_fe, take_fe, splice_fe]
    obtain ⟨b, hb, hb1, hv⟩ := add_val a0 a1 a2 a3 b0 b1 b2 b3 0 (by decide)
    have h38 := times38 _ hb hb1
    have lr := val_lt (a0 + b0 + 0) (a1 + b1 + carry64 a0 b0 0) (a2 + b2 + carry64 a1 b1 (carry64 a0 b0 0)) (a3 + b3 + carry64 a2 b2 (carry64 a1 b1 (carry64 a0 b0 0)))
    have hp := plus_f lr (38 * carry64 a3 b3 (carry64 a2 b2 (carry64 a1 b1 (carry64 a0 b0 0))))
    rw [fe_val, h38] at hp
    refine ACall.of_f hp ?_
    simp only [push_cast, reduceCtorEq, reduceIte, Nat.reduceAdd, Nat.reduceSub, Nat.reduceMul, Nat.reduceLT, Nat.reduceLeDiff, Nat.reduceEqDiff, Nat.reduceBEq, Int.reduceLT, Int.reduceLE, Int.reduceToNat, Int.reduceAdd, Int.reduceMul, Int.reduceNeg, Int.reduceSub, UInt64.reduceOfNat, UInt32.reduceOfNat, UInt8.reduceOfNat, UInt64.reduceToNat, UInt32.reduceToNat, UInt8.reduceToNat, Int.reduceEq, Int.reduceNe, Int.reduceTDiv, Int.reduceTMod, Int.reduceBNe, Int.reduceBEq, Nat.reduceBNe, ← fe_prm, length_fe, all_fe, take_fe, splice_fe]
    refine ACall.of_f (settled_f (plus_lt lr (by omega))) ?_
    simp only [Tryd.f26, push_cast, reduceCtorEq, reduceIte, Nat.reduceAdd, Nat.reduceSub, Nat.reduceMul, Nat.reduceLT, Nat.reduceLeDiff, Nat.reduceEqDiff, Nat.reduceBEq, Int.reduceLT, Int.reduceLE, Int.reduceToNat, Int.reduceAdd, Int.reduceMul, Int.reduceNeg, Int.reduceSub, UInt64.reduceOfNat, UInt32.reduceOfNat, UInt8.reduceOfNat, UInt64.reduceToNat, UInt32.reduceToNat, UInt8.reduceToNat, Int.reduceEq, Int.reduceNe, Int.reduceTDiv, Int.reduceTMod, Int.reduceBNe, Int.reduceBEq, Nat.reduceBNe, ← fe_prm, length_fe, all_fe, take_fe, splice_fe]
    rw [plus_mod, mod38, hv, show (0 : UInt64).toNat = 0 from rfl, Nat.add_zero]
set_option maxHeartbeats 4000000 in
set_option maxRecDepth 10000 in
theorem mul64_f (x y : UInt64) : FCall Tryd.prog GL 35 [.u64 x, .u64 y] (.tup [.u64 (UInt64.ofNat (x.toNat * y.toNat / 18446744073709551616)), .u64 (x * y)]) := by
  refine FCall.of_acall ?_ ?_ ?_
  · exact PureL_cons (Pure_u64 _) (PureL_cons (Pure_u64 _) PureL_nil)
  · exact Pure_tup (PureL_cons (Pure_u64 _) (PureL_cons (Pure_u64 _) PureL_nil))
  · refine ACall.of_body Tryd.func35 rfl ?_
    simp only [push_cast, reduceCtorEq, reduceIte, Nat.reduceAdd, Nat.reduceSub, Nat.reduceMul, Nat.reduceLT, Nat.reduceLeDiff, Nat.reduceEqDiff, Nat.reduceBEq, Int.reduceLT, Int.reduceLE, Int.reduceToNat, Int.reduceAdd, Int.reduceMul, Int.reduceNeg, Int.reduceSub, UInt64.reduceOfNat, UInt32.reduceOfNat, UInt8.reduceOfNat, UInt64.reduceToNat, UInt32.reduceToNat, UInt8.reduceToNat, Int.reduceEq, Int.reduceNe, Int.reduceTDiv, Int.reduceTMod, Int.reduceBNe, Int.reduceBEq, Nat.reduceBNe, Tryd.ntmps35, ← fe_prm, length_fe, all_fe, take_fe, splice_fe]
    simp only [Tryd.f35, push_cast, reduceCtorEq, reduceIte, Nat.reduceAdd, Nat.reduceSub, Nat.reduceMul, Nat.reduceLT, Nat.reduceLeDiff, Nat.reduceEqDiff, Nat.reduceBEq, Int.reduceLT, Int.reduceLE, Int.reduceToNat, Int.reduceAdd, Int.reduceMul, Int.reduceNeg, Int.reduceSub, UInt64.reduceOfNat, UInt32.reduceOfNat, UInt8.reduceOfNat, UInt64.reduceToNat, UInt32.reduceToNat, UInt8.reduceToNat, Int.reduceEq, Int.reduceNe, Int.reduceTDiv, Int.reduceTMod, Int.reduceBNe, Int.reduceBEq, Nat.reduceBNe, ← fe_prm, length_fe, all_fe, take_fe, splice_fe]
    rw [mul64_hi]
end Go.Proofs.YtfjmpdoidkblcaaDoor
