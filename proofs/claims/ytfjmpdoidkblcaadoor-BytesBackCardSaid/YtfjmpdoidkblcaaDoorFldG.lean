import Derived.Test.YtfjmpdoidkblcaaDoorFldF
set_option linter.unusedSimpArgs false
set_option linter.unusedVariables false
namespace Go.Proofs.YtfjmpdoidkblcaaDoor
open Go Go.Ab Go.Fld

theorem prm_top : prm < top := by decide
theorem mod_lt (n : Nat) : n % prm < prm := Nat.mod_lt _ (by decide)
theorem mod_top (n : Nat) : n % prm < top := Nat.lt_trans (mod_lt n) prm_top

set_option maxHeartbeats 4000000 in
set_option maxRecDepth 10000 in
theorem by_f {k : Nat} {a b r : Nat} (ha : a < prm) (hb : b < prm) (hk : Tryd.xk k = .go) (hg : GoFn Tryd.prog k) (h : FCall Tryd.prog GL k [.agg (fe a), .agg (fe b)] (.agg (fe r))) :
    FCall Tryd.prog GL 25 [.fn (.func k) [] [], .agg (fe a), .agg (fe b)] (.tup [.agg (fe r), .int .i64 0]) := by
  refine FCall.of_acall ?_ ?_ ?_
  · exact PureL_cons (Pure_fn PureL_nil PureL_nil) (PureL_cons (Pure_fe _) (PureL_cons (Pure_fe _) PureL_nil))
  · exact Pure_tup (PureL_cons (Pure_fe _) (PureL_cons (Pure_int _ _) PureL_nil))
  · refine ACall.of_body Tryd.func25 rfl ?_
    simp only [push_cast, reduceCtorEq, reduceIte, Nat.reduceAdd, Nat.reduceSub, Nat.reduceMul, Nat.reduceLT, Nat.reduceLeDiff, Nat.reduceEqDiff, Nat.reduceBEq, Int.reduceLT, Int.reduceLE, Int.reduceToNat, Int.reduceAdd, Int.reduceMul, Int.reduceNeg, Int.reduceSub, UInt64.reduceOfNat, UInt32.reduceOfNat, UInt8.reduceOfNat, UInt64.reduceToNat, UInt32.reduceToNat, UInt8.reduceToNat, Int.reduceEq, Int.reduceNe, Int.reduceTDiv, Int.reduceTMod, Int.reduceBNe, Int.reduceBEq, Nat.reduceBNe, hk, hg, Tryd.ntmps25, ← fe_prm, length_fe, all_fe, take_fe, splice_fe]
    have h1 := below_f (Nat.lt_trans ha prm_top)
    rw [decide_eq_true ha] at h1
    have h2 := below_f (Nat.lt_trans hb prm_top)
    rw [decide_eq_true hb] at h2
    refine ACall.of_f h1 ?_
    simp only [push_cast, reduceCtorEq, reduceIte, Nat.reduceAdd, Nat.reduceSub, Nat.reduceMul, Nat.reduceLT, Nat.reduceLeDiff, Nat.reduceEqDiff, Nat.reduceBEq, Int.reduceLT, Int.reduceLE, Int.reduceToNat, Int.reduceAdd, Int.reduceMul, Int.reduceNeg, Int.reduceSub, UInt64.reduceOfNat, UInt32.reduceOfNat, UInt8.reduceOfNat, UInt64.reduceToNat, UInt32.reduceToNat, UInt8.reduceToNat, Int.reduceEq, Int.reduceNe, Int.reduceTDiv, Int.reduceTMod, Int.reduceBNe, Int.reduceBEq, Nat.reduceBNe, hk, hg, ← fe_prm, length_fe, all_fe, take_fe, splice_fe]
    refine ACall.of_f h2 ?_
    simp only [push_cast, reduceCtorEq, reduceIte, Nat.reduceAdd, Nat.reduceSub, Nat.reduceMul, Nat.reduceLT, Nat.reduceLeDiff, Nat.reduceEqDiff, Nat.reduceBEq, Int.reduceLT, Int.reduceLE, Int.reduceToNat, Int.reduceAdd, Int.reduceMul, Int.reduceNeg, Int.reduceSub, UInt64.reduceOfNat, UInt32.reduceOfNat, UInt8.reduceOfNat, UInt64.reduceToNat, UInt32.reduceToNat, UInt8.reduceToNat, Int.reduceEq, Int.reduceNe, Int.reduceTDiv, Int.reduceTMod, Int.reduceBNe, Int.reduceBEq, Nat.reduceBNe, hk, hg, ← fe_prm, length_fe, all_fe, take_fe, splice_fe]
    refine ACall.of_f h ?_
    simp only [push_cast, reduceCtorEq, reduceIte, Nat.reduceAdd, Nat.reduceSub, Nat.reduceMul, Nat.reduceLT, Nat.reduceLeDiff, Nat.reduceEqDiff, Nat.reduceBEq, Int.reduceLT, Int.reduceLE, Int.reduceToNat, Int.reduceAdd, Int.reduceMul, Int.reduceNeg, Int.reduceSub, UInt64.reduceOfNat, UInt32.reduceOfNat, UInt8.reduceOfNat, UInt64.reduceToNat, UInt32.reduceToNat, UInt8.reduceToNat, Int.reduceEq, Int.reduceNe, Int.reduceTDiv, Int.reduceTMod, Int.reduceBNe, Int.reduceBEq, Nat.reduceBNe, hk, hg, Tryd.f25, ← fe_prm, length_fe, all_fe, take_fe, splice_fe]

set_option maxHeartbeats 4000000 in
set_option maxRecDepth 10000 in
theorem Add_f {a b : Nat} (ha : a < prm) (hb : b < prm) : FCall Tryd.prog GL 15 [.agg (fe a), .agg (fe b)] (.tup [.agg (fe ((a + b) % prm)), .int .i64 0]) := by
  refine FCall.of_acall ?_ ?_ ?_
  · exact PureL_cons (Pure_fe _) (PureL_cons (Pure_fe _) PureL_nil)
  · exact Pure_tup (PureL_cons (Pure_fe _) (PureL_cons (Pure_int _ _) PureL_nil))
  · refine ACall.of_body Tryd.func15 rfl ?_
    simp only [push_cast, reduceCtorEq, reduceIte, Nat.reduceAdd, Nat.reduceSub, Nat.reduceMul, Nat.reduceLT, Nat.reduceLeDiff, Nat.reduceEqDiff, Nat.reduceBEq, Int.reduceLT, Int.reduceLE, Int.reduceToNat, Int.reduceAdd, Int.reduceMul, Int.reduceNeg, Int.reduceSub, UInt64.reduceOfNat, UInt32.reduceOfNat, UInt8.reduceOfNat, UInt64.reduceToNat, UInt32.reduceToNat, UInt8.reduceToNat, Int.reduceEq, Int.reduceNe, Int.reduceTDiv, Int.reduceTMod, Int.reduceBNe, Int.reduceBEq, Nat.reduceBNe, Tryd.ntmps15, ← fe_prm, length_fe, all_fe, take_fe, splice_fe]
    refine ACall.of_f (by_f ha hb Tryd.xk26 Tryd.go26 (add_f (Nat.lt_trans ha prm_top) (Nat.lt_trans hb prm_top))) ?_
    simp only [push_cast, reduceCtorEq, reduceIte, Nat.reduceAdd, Nat.reduceSub, Nat.reduceMul, Nat.reduceLT, Nat.reduceLeDiff, Nat.reduceEqDiff, Nat.reduceBEq, Int.reduceLT, Int.reduceLE, Int.reduceToNat, Int.reduceAdd, Int.reduceMul, Int.reduceNeg, Int.reduceSub, UInt64.reduceOfNat, UInt32.reduceOfNat, UInt8.reduceOfNat, UInt64.reduceToNat, UInt32.reduceToNat, UInt8.reduceToNat, Int.reduceEq, Int.reduceNe, Int.reduceTDiv, Int.reduceTMod, Int.reduceBNe, Int.reduceBEq, Nat.reduceBNe, Tryd.f15, ← fe_prm, length_fe, all_fe, take_fe, splice_fe]

set_option maxHeartbeats 4000000 in
set_option maxRecDepth 10000 in
theorem Mul_f {a b : Nat} (ha : a < prm) (hb : b < prm) : FCall Tryd.prog GL 16 [.agg (fe a), .agg (fe b)] (.tup [.agg (fe (a * b % prm)), .int .i64 0]) := by
  refine FCall.of_acall ?_ ?_ ?_
  · exact PureL_cons (Pure_fe _) (PureL_cons (Pure_fe _) PureL_nil)
  · exact Pure_tup (PureL_cons (Pure_fe _) (PureL_cons (Pure_int _ _) PureL_nil))
  · refine ACall.of_body Tryd.func16 rfl ?_
    simp only [push_cast, reduceCtorEq, reduceIte, Nat.reduceAdd, Nat.reduceSub, Nat.reduceMul, Nat.reduceLT, Nat.reduceLeDiff, Nat.reduceEqDiff, Nat.reduceBEq, Int.reduceLT, Int.reduceLE, Int.reduceToNat, Int.reduceAdd, Int.reduceMul, Int.reduceNeg, Int.reduceSub, UInt64.reduceOfNat, UInt32.reduceOfNat, UInt8.reduceOfNat, UInt64.reduceToNat, UInt32.reduceToNat, UInt8.reduceToNat, Int.reduceEq, Int.reduceNe, Int.reduceTDiv, Int.reduceTMod, Int.reduceBNe, Int.reduceBEq, Nat.reduceBNe, Tryd.ntmps16, ← fe_prm, length_fe, all_fe, take_fe, splice_fe]
    refine ACall.of_f (by_f ha hb Tryd.xk27 Tryd.go27 (mul_f (Nat.lt_trans ha prm_top) (Nat.lt_trans hb prm_top))) ?_
    simp only [push_cast, reduceCtorEq, reduceIte, Nat.reduceAdd, Nat.reduceSub, Nat.reduceMul, Nat.reduceLT, Nat.reduceLeDiff, Nat.reduceEqDiff, Nat.reduceBEq, Int.reduceLT, Int.reduceLE, Int.reduceToNat, Int.reduceAdd, Int.reduceMul, Int.reduceNeg, Int.reduceSub, UInt64.reduceOfNat, UInt32.reduceOfNat, UInt8.reduceOfNat, UInt64.reduceToNat, UInt32.reduceToNat, UInt8.reduceToNat, Int.reduceEq, Int.reduceNe, Int.reduceTDiv, Int.reduceTMod, Int.reduceBNe, Int.reduceBEq, Nat.reduceBNe, Tryd.f16, ← fe_prm, length_fe, all_fe, take_fe, splice_fe]

set_option maxHeartbeats 4000000 in
set_option maxRecDepth 10000 in
theorem Sub_f {a b : Nat} (ha : a < prm) (hb : b < prm) : FCall Tryd.prog GL 17 [.agg (fe a), .agg (fe b)] (.tup [.agg (fe ((a + prm - b) % prm)), .int .i64 0]) := by
  refine FCall.of_acall ?_ ?_ ?_
  · exact PureL_cons (Pure_fe _) (PureL_cons (Pure_fe _) PureL_nil)
  · exact Pure_tup (PureL_cons (Pure_fe _) (PureL_cons (Pure_int _ _) PureL_nil))
  · refine ACall.of_body Tryd.func17 rfl ?_
    simp only [push_cast, reduceCtorEq, reduceIte, Nat.reduceAdd, Nat.reduceSub, Nat.reduceMul, Nat.reduceLT, Nat.reduceLeDiff, Nat.reduceEqDiff, Nat.reduceBEq, Int.reduceLT, Int.reduceLE, Int.reduceToNat, Int.reduceAdd, Int.reduceMul, Int.reduceNeg, Int.reduceSub, UInt64.reduceOfNat, UInt32.reduceOfNat, UInt8.reduceOfNat, UInt64.reduceToNat, UInt32.reduceToNat, UInt8.reduceToNat, Int.reduceEq, Int.reduceNe, Int.reduceTDiv, Int.reduceTMod, Int.reduceBNe, Int.reduceBEq, Nat.reduceBNe, Tryd.ntmps17, ← fe_prm, length_fe, all_fe, take_fe, splice_fe]
    refine ACall.of_f (by_f ha hb Tryd.xk28 Tryd.go28 (sub_f ha hb)) ?_
    simp only [push_cast, reduceCtorEq, reduceIte, Nat.reduceAdd, Nat.reduceSub, Nat.reduceMul, Nat.reduceLT, Nat.reduceLeDiff, Nat.reduceEqDiff, Nat.reduceBEq, Int.reduceLT, Int.reduceLE, Int.reduceToNat, Int.reduceAdd, Int.reduceMul, Int.reduceNeg, Int.reduceSub, UInt64.reduceOfNat, UInt32.reduceOfNat, UInt8.reduceOfNat, UInt64.reduceToNat, UInt32.reduceToNat, UInt8.reduceToNat, Int.reduceEq, Int.reduceNe, Int.reduceTDiv, Int.reduceTMod, Int.reduceBNe, Int.reduceBEq, Nat.reduceBNe, Tryd.f17, ← fe_prm, length_fe, all_fe, take_fe, splice_fe]
end Go.Proofs.YtfjmpdoidkblcaaDoor
