import Derived.Test.YtfjmpdoidkblcaaDoorFacts
import Derived.Test.YtfjmpdoidkblcaaDoorFldM
set_option linter.unusedSimpArgs false
set_option linter.unusedVariables false
namespace Go.Proofs.YtfjmpdoidkblcaaDoor
open Go Go.Ab Go.Fld

set_option maxHeartbeats 4000000 in
set_option maxRecDepth 10000 in
theorem less_w (a0 a1 a2 a3 b0 b1 b2 b3 : UInt64) : FCall Tryd.prog GL 32 [.agg (u64s [a0, a1, a2, a3]), .agg (u64s [b0, b1, b2, b3])]
    (.tup [.agg (u64s [a0 - b0 - 0, a1 - b1 - borrow64 a0 b0 0, a2 - b2 - borrow64 a1 b1 (borrow64 a0 b0 0), a3 - b3 - borrow64 a2 b2 (borrow64 a1 b1 (borrow64 a0 b0 0))]),
      .bool (((borrow64 a3 b3 (borrow64 a2 b2 (borrow64 a1 b1 (borrow64 a0 b0 0)))).toNat : Int) == 1)]) := by
  refine FCall.of_acall ?_ ?_ ?_
  · exact PureL_cons (Pure_agg (PureL_u64s _)) (PureL_cons (Pure_agg (PureL_u64s _)) PureL_nil)
  · exact Pure_tup (PureL_cons (Pure_agg (PureL_u64s _)) (PureL_cons (Pure_bool _) PureL_nil))
  · refine ACall.of_body Tryd.func32 rfl ?_
    simp only [push_cast, reduceCtorEq, reduceIte, Nat.reduceAdd, Nat.reduceSub, Nat.reduceMul, Nat.reduceLT, Nat.reduceLeDiff, Nat.reduceEqDiff, Nat.reduceBEq, Int.reduceLT, Int.reduceLE, Int.reduceToNat, Int.reduceAdd, Int.reduceMul, Int.reduceNeg, Int.reduceSub, UInt64.reduceOfNat, UInt32.reduceOfNat, UInt8.reduceOfNat, UInt64.reduceToNat, UInt32.reduceToNat, UInt8.reduceToNat, Int.reduceEq, Int.reduceNe, Int.reduceTDiv, Int.reduceTMod, Int.reduceBNe, Int.reduceBEq, Nat.reduceBNe, Tryd.ntmps32]
    refine Tri.rounds 5 ?_
    rw [awR_succ]
    simp only [push_cast, reduceCtorEq, reduceIte, Nat.reduceAdd, Nat.reduceSub, Nat.reduceMul, Nat.reduceLT, Nat.reduceLeDiff, Nat.reduceEqDiff, Nat.reduceBEq, Int.reduceLT, Int.reduceLE, Int.reduceToNat, Int.reduceAdd, Int.reduceMul, Int.reduceNeg, Int.reduceSub, UInt64.reduceOfNat, UInt32.reduceOfNat, UInt8.reduceOfNat, UInt64.reduceToNat, UInt32.reduceToNat, UInt8.reduceToNat, Int.reduceEq, Int.reduceNe, Int.reduceTDiv, Int.reduceTMod, Int.reduceBNe, Int.reduceBEq, Nat.reduceBNe]
    refine ⟨by kernel_rfl, ?_⟩
    rw [awR_succ]
    simp only [push_cast, reduceCtorEq, reduceIte, Nat.reduceAdd, Nat.reduceSub, Nat.reduceMul, Nat.reduceLT, Nat.reduceLeDiff, Nat.reduceEqDiff, Nat.reduceBEq, Int.reduceLT, Int.reduceLE, Int.reduceToNat, Int.reduceAdd, Int.reduceMul, Int.reduceNeg, Int.reduceSub, UInt64.reduceOfNat, UInt32.reduceOfNat, UInt8.reduceOfNat, UInt64.reduceToNat, UInt32.reduceToNat, UInt8.reduceToNat, Int.reduceEq, Int.reduceNe, Int.reduceTDiv, Int.reduceTMod, Int.reduceBNe, Int.reduceBEq, Nat.reduceBNe]
    refine ⟨by kernel_rfl, ?_⟩
    rw [awR_succ]
    simp only [push_cast, reduceCtorEq, reduceIte, Nat.reduceAdd, Nat.reduceSub, Nat.reduceMul, Nat.reduceLT, Nat.reduceLeDiff, Nat.reduceEqDiff, Nat.reduceBEq, Int.reduceLT, Int.reduceLE, Int.reduceToNat, Int.reduceAdd, Int.reduceMul, Int.reduceNeg, Int.reduceSub, UInt64.reduceOfNat, UInt32.reduceOfNat, UInt8.reduceOfNat, UInt64.reduceToNat, UInt32.reduceToNat, UInt8.reduceToNat, Int.reduceEq, Int.reduceNe, Int.reduceTDiv, Int.reduceTMod, Int.reduceBNe, Int.reduceBEq, Nat.reduceBNe]
    refine ⟨by kernel_rfl, ?_⟩
    rw [awR_succ]
    simp only [push_cast, reduceCtorEq, reduceIte, Nat.reduceAdd, Nat.reduceSub, Nat.reduceMul, Nat.reduceLT, Nat.reduceLeDiff, Nat.reduceEqDiff, Nat.reduceBEq, Int.reduceLT, Int.reduceLE, Int.reduceToNat, Int.reduceAdd, Int.reduceMul, Int.reduceNeg, Int.reduceSub, UInt64.reduceOfNat, UInt32.reduceOfNat, UInt8.reduceOfNat, UInt64.reduceToNat, UInt32.reduceToNat, UInt8.reduceToNat, Int.reduceEq, Int.reduceNe, Int.reduceTDiv, Int.reduceTMod, Int.reduceBNe, Int.reduceBEq, Nat.reduceBNe]
    refine ⟨by kernel_rfl, ?_⟩
    rw [awR_succ]
    simp only [push_cast, reduceCtorEq, reduceIte, Nat.reduceAdd, Nat.reduceSub, Nat.reduceMul, Nat.reduceLT, Nat.reduceLeDiff, Nat.reduceEqDiff, Nat.reduceBEq, Int.reduceLT, Int.reduceLE, Int.reduceToNat, Int.reduceAdd, Int.reduceMul, Int.reduceNeg, Int.reduceSub, UInt64.reduceOfNat, UInt32.reduceOfNat, UInt8.reduceOfNat, UInt64.reduceToNat, UInt32.reduceToNat, UInt8.reduceToNat, Int.reduceEq, Int.reduceNe, Int.reduceTDiv, Int.reduceTMod, Int.reduceBNe, Int.reduceBEq, Nat.reduceBNe]
    simp only [Tryd.f32, push_cast, reduceCtorEq, reduceIte, Nat.reduceAdd, Nat.reduceSub, Nat.reduceMul, Nat.reduceLT, Nat.reduceLeDiff, Nat.reduceEqDiff, Nat.reduceBEq, Int.reduceLT, Int.reduceLE, Int.reduceToNat, Int.reduceAdd, Int.reduceMul, Int.reduceNeg, Int.reduceSub, UInt64.reduceOfNat, UInt32.reduceOfNat, UInt8.reduceOfNat, UInt64.reduceToNat, UInt32.reduceToNat, UInt8.reduceToNat, Int.reduceEq, Int.reduceNe, Int.reduceTDiv, Int.reduceTMod, Int.reduceBNe, Int.reduceBEq, Nat.reduceBNe]

theorem less_f {a b : Nat} (ha : a < top) (hb : b < top) : FCall Tryd.prog GL 32 [.agg (fe a), .agg (fe b)]
    (.tup [.agg (fe (if a < b then a + top - b else a - b)), .bool (decide (a < b))]) := by
  obtain ⟨a0, a1, a2, a3, rfl⟩ := val_ex ha
  obtain ⟨b0, b1, b2, b3, rfl⟩ := val_ex hb
  have h := less_w a0 a1 a2 a3 b0 b1 b2 b3
  have z : (0 : UInt64).toNat = 0 := rfl
  have p0 := sub_part a0 b0 0 (by decide)
  have p1 := sub_part a1 b1 _ p0.2
  have p2 := sub_part a2 b2 _ p1.2
  have p3 := sub_part a3 b3 _ p2.2
  generalize borrow64 a0 b0 0 = c0 at *
  generalize borrow64 a1 b1 c0 = c1 at *
  generalize borrow64 a2 b2 c1 = c2 at *
  generalize borrow64 a3 b3 c2 = c3 at *
  have k : val (a0 - b0 - 0) (a1 - b1 - c0) (a2 - b2 - c1) (a3 - b3 - c2) + val b0 b1 b2 b3 = val a0 a1 a2 a3 + top * c3.toNat := by
    unfold val top
    omega
  have l := val_lt (a0 - b0 - 0) (a1 - b1 - c0) (a2 - b2 - c1) (a3 - b3 - c2)
  have la := val_lt a0 a1 a2 a3
  have lb := val_lt b0 b1 b2 b3
  rw [← fe_val, ← fe_val, ← fe_val] at h
  generalize val (a0 - b0 - 0) (a1 - b1 - c0) (a2 - b2 - c1) (a3 - b3 - c2) = r at *
  generalize val a0 a1 a2 a3 = x at *
  generalize val b0 b1 b2 b3 = y at *
  have c3' : c3.toNat = if x < y then 1 else 0 := by
    have := p3.2
    unfold top at *
    split <;> omega
  rw [c3'] at h k
  by_cases e : x < y
  · simp only [e, if_true, decide_true] at h k ⊢
    have : r = x + top - y := by unfold top at *; omega
    rw [this] at h
    exact h
  · simp only [e, if_false, decide_false] at h k ⊢
    have : r = x - y := by omega
    rw [this] at h
    exact h

end Go.Proofs.YtfjmpdoidkblcaaDoor
