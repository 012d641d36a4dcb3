import Derived.Test.YtfjmpdoidkblcaaDoorFldH
import Derived.Test.YtfjmpdoidkblcaaDoorFldO
set_option linter.unusedSimpArgs false
set_option linter.unusedVariables false
namespace Go.Proofs.YtfjmpdoidkblcaaDoor
open Go Go.Ab Go.Fld

set_option maxHeartbeats 40000000 in
set_option maxRecDepth 10000 in
theorem From_f (b : List UInt8) (hb : b.length = 32) : FCall Tryd.prog GL 11 [.agg (u8s b)] (.agg (fe (leB b % 57896044618658097711785492504343953926634992332820282019728792003956564819968 % prm))) := by
  have tb : b.take 32 = b := List.take_of_length_le (by omega)
  refine FCall.of_acall ?_ ?_ ?_
  · exact PureL_cons (Pure_agg (PureL_u8s _)) PureL_nil
  · exact Pure_fe _
  · refine ACall.of_body Tryd.func11 rfl ?_
    simp only [push_cast, reduceCtorEq, reduceIte, Nat.reduceAdd, Nat.reduceSub, Nat.reduceMul, Nat.reduceLT, Nat.reduceLeDiff, Nat.reduceEqDiff, Nat.reduceBEq, Int.reduceLT, Int.reduceLE, Int.reduceToNat, Int.reduceAdd, Int.reduceMul, Int.reduceNeg, Int.reduceSub, UInt64.reduceOfNat, UInt32.reduceOfNat, UInt8.reduceOfNat, UInt64.reduceToNat, UInt32.reduceToNat, UInt8.reduceToNat, Int.reduceEq, Int.reduceNe, Int.reduceTDiv, Int.reduceTMod, Int.reduceBNe, Int.reduceBEq, Nat.reduceBNe, Tryd.ntmps11, hb, tb, length_fe, all_fe, take_fe, splice_fe, orB_fold]
    refine Tri.rounds 33 ?_
    rw [awR_succ]
    simp only [push_cast, reduceCtorEq, reduceIte, Nat.reduceAdd, Nat.reduceSub, Nat.reduceMul, Nat.reduceLT, Nat.reduceLeDiff, Nat.reduceEqDiff, Nat.reduceBEq, Int.reduceLT, Int.reduceLE, Int.reduceToNat, Int.reduceAdd, Int.reduceMul, Int.reduceNeg, Int.reduceSub, UInt64.reduceOfNat, UInt32.reduceOfNat, UInt8.reduceOfNat, UInt64.reduceToNat, UInt32.reduceToNat, UInt8.reduceToNat, Int.reduceEq, Int.reduceNe, Int.reduceTDiv, Int.reduceTMod, Int.reduceBNe, Int.reduceBEq, Nat.reduceBNe, hb, tb, length_fe, all_fe, take_fe, splice_fe, orB_fold]
    refine ⟨by kernel_rfl, ?_⟩
    rw [awR_succ]
    simp only [push_cast, reduceCtorEq, reduceIte, Nat.reduceAdd, Nat.reduceSub, Nat.reduceMul, Nat.reduceLT, Nat.reduceLeDiff, Nat.reduceEqDiff, Nat.reduceBEq, Int.reduceLT, Int.reduceLE, Int.reduceToNat, Int.reduceAdd, Int.reduceMul, Int.reduceNeg, Int.reduceSub, UInt64.reduceOfNat, UInt32.reduceOfNat, UInt8.reduceOfNat, UInt64.reduceToNat, UInt32.reduceToNat, UInt8.reduceToNat, Int.reduceEq, Int.reduceNe, Int.reduceTDiv, Int.reduceTMod, Int.reduceBNe, Int.reduceBEq, Nat.reduceBNe, hb, tb, length_fe, all_fe, take_fe, splice_fe, orB_fold]
    refine ⟨by kernel_rfl, ?_⟩
    rw [awR_succ]
    simp only [push_cast, reduceCtorEq, reduceIte, Nat.reduceAdd, Nat.reduceSub, Nat.reduceMul, Nat.reduceLT, Nat.reduceLeDiff, Nat.reduceEqDiff, Nat.reduceBEq, Int.reduceLT, Int.reduceLE, Int.reduceToNat, Int.reduceAdd, Int.reduceMul, Int.reduceNeg, Int.reduceSub, UInt64.reduceOfNat, UInt32.reduceOfNat, UInt8.reduceOfNat, UInt64.reduceToNat, UInt32.reduceToNat, UInt8.reduceToNat, Int.reduceEq, Int.reduceNe, Int.reduceTDiv, Int.reduceTMod, Int.reduceBNe, Int.reduceBEq, Nat.reduceBNe, hb, tb, length_fe, all_fe, take_fe, splice_fe, orB_fold]
    refine ⟨by kernel_rfl, ?_⟩
    rw [awR_succ]
    simp only [push_cast, reduceCtorEq, reduceIte, Nat.reduceAdd, Nat.reduceSub, Nat.reduceMul, Nat.reduceLT, Nat.reduceLeDiff, Nat.reduceEqDiff, Nat.reduceBEq, Int.reduceLT, Int.reduceLE, Int.reduceToNat, Int.reduceAdd, Int.reduceMul, Int.reduceNeg, Int.reduceSub, UInt64.reduceOfNat, UInt32.reduceOfNat, UInt8.reduceOfNat, UInt64.reduceToNat, UInt32.reduceToNat, UInt8.reduceToNat, Int.reduceEq, Int.reduceNe, Int.reduceTDiv, Int.reduceTMod, Int.reduceBNe, Int.reduceBEq, Nat.reduceBNe, hb, tb, length_fe, all_fe, take_fe, splice_fe, orB_fold]
    refine ⟨by kernel_rfl, ?_⟩
    rw [awR_succ]
    simp only [push_cast, reduceCtorEq, reduceIte, Nat.reduceAdd, Nat.reduceSub, Nat.reduceMul, Nat.reduceLT, Nat.reduceLeDiff, Nat.reduceEqDiff, Nat.reduceBEq, Int.reduceLT, Int.reduceLE, Int.reduceToNat, Int.reduceAdd, Int.reduceMul, Int.reduceNeg, Int.reduceSub, UInt64.reduceOfNat, UInt32.reduceOfNat, UInt8.reduceOfNat, UInt64.reduceToNat, UInt32.reduceToNat, UInt8.reduceToNat, Int.reduceEq, Int.reduceNe, Int.reduceTDiv, Int.reduceTMod, Int.reduceBNe, Int.reduceBEq, Nat.reduceBNe, hb, tb, length_fe, all_fe, take_fe, splice_fe, orB_fold]
    refine ⟨by kernel_rfl, ?_⟩
    rw [awR_succ]
    simp only [push_cast, reduceCtorEq, reduceIte, Nat.reduceAdd, Nat.reduceSub, Nat.reduceMul, Nat.reduceLT, Nat.reduceLeDiff, Nat.reduceEqDiff, Nat.reduceBEq, Int.reduceLT, Int.reduceLE, Int.reduceToNat, Int.reduceAdd, Int.reduceMul, Int.reduceNeg, Int.reduceSub, UInt64.reduceOfNat, UInt32.reduceOfNat, UInt8.reduceOfNat, UInt64.reduceToNat, UInt32.reduceToNat, UInt8.reduceToNat, Int.reduceEq, Int.reduceNe, Int.reduceTDiv, Int.reduceTMod, Int.reduceBNe, Int.reduceBEq, Nat.reduceBNe, hb, tb, length_fe, all_fe, take_fe, splice_fe, orB_fold]
    refine ⟨by kernel_rfl, ?_⟩
    rw [awR_succ]
    simp only [push_cast, reduceCtorEq, reduceIte, Nat.reduceAdd, Nat.reduceSub, Nat.reduceMul, Nat.reduceLT, Nat.reduceLeDiff, Nat.reduceEqDiff, Nat.reduceBEq, Int.reduceLT, Int.reduceLE, Int.reduceToNat, Int.reduceAdd, Int.reduceMul, Int.reduceNeg, Int.reduceSub, UInt64.reduceOfNat, UInt32.reduceOfNat, UInt8.reduceOfNat, UInt64.reduceToNat, UInt32.reduceToNat, UInt8.reduceToNat, Int.reduceEq, Int.reduceNe, Int.reduceTDiv, Int.reduceTMod, Int.reduceBNe, Int.reduceBEq, Nat.reduceBNe, hb, tb, length_fe, all_fe, take_fe, splice_fe, orB_fold]
    refine ⟨by kernel_rfl, ?_⟩
    rw [awR_succ]
    simp only [push_cast, reduceCtorEq, reduceIte, Nat.reduceAdd, Nat.reduceSub, Nat.reduceMul, Nat.reduceLT, Nat.reduceLeDiff, Nat.reduceEqDiff, Nat.reduceBEq, Int.reduceLT, Int.reduceLE, Int.reduceToNat, Int.reduceAdd, Int.reduceMul, Int.reduceNeg, Int.reduceSub, UInt64.reduceOfNat, UInt32.reduceOfNat, UInt8.reduceOfNat, UInt64.reduceToNat, UInt32.reduceToNat, UInt8.reduceToNat, Int.reduceEq, Int.reduceNe, Int.reduceTDiv, Int.reduceTMod, Int.reduceBNe, Int.reduceBEq, Nat.reduceBNe, hb, tb, length_fe, all_fe, take_fe, splice_fe, orB_fold]
    refine ⟨by kernel_rfl, ?_⟩
    rw [awR_succ]
    simp only [push_cast, reduceCtorEq, reduceIte, Nat.reduceAdd, Nat.reduceSub, Nat.reduceMul, Nat.reduceLT, Nat.reduceLeDiff, Nat.reduceEqDiff, Nat.reduceBEq, Int.reduceLT, Int.reduceLE, Int.reduceToNat, Int.reduceAdd, Int.reduceMul, Int.reduceNeg, Int.reduceSub, UInt64.reduceOfNat, UInt32.reduceOfNat, UInt8.reduceOfNat, UInt64.reduceToNat, UInt32.reduceToNat, UInt8.reduceToNat, Int.reduceEq, Int.reduceNe, Int.reduceTDiv, Int.reduceTMod, Int.reduceBNe, Int.reduceBEq, Nat.reduceBNe, hb, tb, length_fe, all_fe, take_fe, splice_fe, orB_fold]
    refine ⟨by kernel_rfl, ?_⟩
    rw [awR_succ]
    simp only [push_cast, reduceCtorEq, reduceIte, Nat.reduceAdd, Nat.reduceSub, Nat.reduceMul, Nat.reduceLT, Nat.reduceLeDiff, Nat.reduceEqDiff, Nat.reduceBEq, Int.reduceLT, Int.reduceLE, Int.reduceToNat, Int.reduceAdd, Int.reduceMul, Int.reduceNeg, Int.reduceSub, UInt64.reduceOfNat, UInt32.reduceOfNat, UInt8.reduceOfNat, UInt64.reduceToNat, UInt32.reduceToNat, UInt8.reduceToNat, Int.reduceEq, Int.reduceNe, Int.reduceTDiv, Int.reduceTMod, Int.reduceBNe, Int.reduceBEq, Nat.reduceBNe, hb, tb, length_fe, all_fe, take_fe, splice_fe, orB_fold]
    refine ⟨by kernel_rfl, ?_⟩
    rw [awR_succ]
    simp only [push_cast, reduceCtorEq, reduceIte, Nat.reduceAdd, Nat.reduceSub, Nat.reduceMul, Nat.reduceLT, Nat.reduceLeDiff, Nat.reduceEqDiff, Nat.reduceBEq, Int.reduceLT, Int.reduceLE, Int.reduceToNat, Int.reduceAdd, Int.reduceMul, Int.reduceNeg, Int.reduceSub, UInt64.reduceOfNat, UInt32.reduceOfNat, UInt8.reduceOfNat, UInt64.reduceToNat, UInt32.reduceToNat, UInt8.reduceToNat, Int.reduceEq, Int.reduceNe, Int.reduceTDiv, Int.reduceTMod, Int.reduceBNe, Int.reduceBEq, Nat.reduceBNe, hb, tb, length_fe, all_fe, take_fe, splice_fe, orB_fold]
    refine ⟨by kernel_rfl, ?_⟩
    rw [awR_succ]
    simp only [push_cast, reduceCtorEq, reduceIte, Nat.reduceAdd, Nat.reduceSub, Nat.reduceMul, Nat.reduceLT, Nat.reduceLeDiff, Nat.reduceEqDiff, Nat.reduceBEq, Int.reduceLT, Int.reduceLE, Int.reduceToNat, Int.reduceAdd, Int.reduceMul, Int.reduceNeg, Int.reduceSub, UInt64.reduceOfNat, UInt32.reduceOfNat, UInt8.reduceOfNat, UInt64.reduceToNat, UInt32.reduceToNat, UInt8.reduceToNat, Int.reduceEq, Int.reduceNe, Int.reduceTDiv, Int.reduceTMod, Int.reduceBNe, Int.reduceBEq, Nat.reduceBNe, hb, tb, length_fe, all_fe, take_fe, splice_fe, orB_fold]
    refine ⟨by kernel_rfl, ?_⟩
    rw [awR_succ]
    simp only [push_cast, reduceCtorEq, reduceIte, Nat.reduceAdd, Nat.reduceSub, Nat.reduceMul, Nat.reduceLT, Nat.reduceLeDiff, Nat.reduceEqDiff, Nat.reduceBEq, Int.reduceLT, Int.reduceLE, Int.reduceToNat, Int.reduceAdd, Int.reduceMul, Int.reduceNeg, Int.reduceSub, UInt64.reduceOfNat, UInt32.reduceOfNat, UInt8.reduceOfNat, UInt64.reduceToNat, UInt32.reduceToNat, UInt8.reduceToNat, Int.reduceEq, Int.reduceNe, Int.reduceTDiv, Int.reduceTMod, Int.reduceBNe, Int.reduceBEq, Nat.reduceBNe, hb, tb, length_fe, all_fe, take_fe, splice_fe, orB_fold]
    refine ⟨by kernel_rfl, ?_⟩
    rw [awR_succ]
    simp only [push_cast, reduceCtorEq, reduceIte, Nat.reduceAdd, Nat.reduceSub, Nat.reduceMul, Nat.reduceLT, Nat.reduceLeDiff, Nat.reduceEqDiff, Nat.reduceBEq, Int.reduceLT, Int.reduceLE, Int.reduceToNat, Int.reduceAdd, Int.reduceMul, Int.reduceNeg, Int.reduceSub, UInt64.reduceOfNat, UInt32.reduceOfNat, UInt8.reduceOfNat, UInt64.reduceToNat, UInt32.reduceToNat, UInt8.reduceToNat, Int.reduceEq, Int.reduceNe, Int.reduceTDiv, Int.reduceTMod, Int.reduceBNe, Int.reduceBEq, Nat.reduceBNe, hb, tb, length_fe, all_fe, take_fe, splice_fe, orB_fold]
    refine ⟨by kernel_rfl, ?_⟩
    rw [awR_succ]
    simp only [push_cast, reduceCtorEq, reduceIte, Nat.reduceAdd, Nat.reduceSub, Nat.reduceMul, Nat.reduceLT, Nat.reduceLeDiff, Nat.reduceEqDiff, Nat.reduceBEq, Int.reduceLT, Int.reduceLE, Int.reduceToNat, Int.reduceAdd, Int.reduceMul, Int.reduceNeg, Int.reduceSub, UInt64.reduceOfNat, UInt32.reduceOfNat, UInt8.reduceOfNat, UInt64.reduceToNat, UInt32.reduceToNat, UInt8.reduceToNat, Int.reduceEq, Int.reduceNe, Int.reduceTDiv, Int.reduceTMod, Int.reduceBNe, Int.reduceBEq, Nat.reduceBNe, hb, tb, length_fe, all_fe, take_fe, splice_fe, orB_fold]
    refine ⟨by kernel_rfl, ?_⟩
    rw [awR_succ]
    simp only [push_cast, reduceCtorEq, reduceIte, Nat.reduceAdd, Nat.reduceSub, Nat.reduceMul, Nat.reduceLT, Nat.reduceLeDiff, Nat.reduceEqDiff, Nat.reduceBEq, Int.reduceLT, Int.reduceLE, Int.reduceToNat, Int.reduceAdd, Int.reduceMul, Int.reduceNeg, Int.reduceSub, UInt64.reduceOfNat, UInt32.reduceOfNat, UInt8.reduceOfNat, UInt64.reduceToNat, UInt32.reduceToNat, UInt8.reduceToNat, Int.reduceEq, Int.reduceNe, Int.reduceTDiv, Int.reduceTMod, Int.reduceBNe, Int.reduceBEq, Nat.reduceBNe, hb, tb, length_fe, all_fe, take_fe, splice_fe, orB_fold]
    refine ⟨by kernel_rfl, ?_⟩
    rw [awR_succ]
    simp only [push_cast, reduceCtorEq, reduceIte, Nat.reduceAdd, Nat.reduceSub, Nat.reduceMul, Nat.reduceLT, Nat.reduceLeDiff, Nat.reduceEqDiff, Nat.reduceBEq, Int.reduceLT, Int.reduceLE, Int.reduceToNat, Int.reduceAdd, Int.reduceMul, Int.reduceNeg, Int.reduceSub, UInt64.reduceOfNat, UInt32.reduceOfNat, UInt8.reduceOfNat, UInt64.reduceToNat, UInt32.reduceToNat, UInt8.reduceToNat, Int.reduceEq, Int.reduceNe, Int.reduceTDiv, Int.reduceTMod, Int.reduceBNe, Int.reduceBEq, Nat.reduceBNe, hb, tb, length_fe, all_fe, take_fe, splice_fe, orB_fold]
    refine ⟨by kernel_rfl, ?_⟩
    rw [awR_succ]
    simp only [push_cast, reduceCtorEq, reduceIte, Nat.reduceAdd, Nat.reduceSub, Nat.reduceMul, Nat.reduceLT, Nat.reduceLeDiff, Nat.reduceEqDiff, Nat.reduceBEq, Int.reduceLT, Int.reduceLE, Int.reduceToNat, Int.reduceAdd, Int.reduceMul, Int.reduceNeg, Int.reduceSub, UInt64.reduceOfNat, UInt32.reduceOfNat, UInt8.reduceOfNat, UInt64.reduceToNat, UInt32.reduceToNat, UInt8.reduceToNat, Int.reduceEq, Int.reduceNe, Int.reduceTDiv, Int.reduceTMod, Int.reduceBNe, Int.reduceBEq, Nat.reduceBNe, hb, tb, length_fe, all_fe, take_fe, splice_fe, orB_fold]
    refine ⟨by kernel_rfl, ?_⟩
    rw [awR_succ]
    simp only [push_cast, reduceCtorEq, reduceIte, Nat.reduceAdd, Nat.reduceSub, Nat.reduceMul, Nat.reduceLT, Nat.reduceLeDiff, Nat.reduceEqDiff, Nat.reduceBEq, Int.reduceLT, Int.reduceLE, Int.reduceToNat, Int.reduceAdd, Int.reduceMul, Int.reduceNeg, Int.reduceSub, UInt64.reduceOfNat, UInt32.reduceOfNat, UInt8.reduceOfNat, UInt64.reduceToNat, UInt32.reduceToNat, UInt8.reduceToNat, Int.reduceEq, Int.reduceNe, Int.reduceTDiv, Int.reduceTMod, Int.reduceBNe, Int.reduceBEq, Nat.reduceBNe, hb, tb, length_fe, all_fe, take_fe, splice_fe, orB_fold]
    refine ⟨by kernel_rfl, ?_⟩
    rw [awR_succ]
    simp only [push_cast, reduceCtorEq, reduceIte, Nat.reduceAdd, Nat.reduceSub, Nat.reduceMul, Nat.reduceLT, Nat.reduceLeDiff, Nat.reduceEqDiff, Nat.reduceBEq, Int.reduceLT, Int.reduceLE, Int.reduceToNat, Int.reduceAdd, Int.reduceMul, Int.reduceNeg, Int.reduceSub, UInt64.reduceOfNat, UInt32.reduceOfNat, UInt8.reduceOfNat, UInt64.reduceToNat, UInt32.reduceToNat, UInt8.reduceToNat, Int.reduceEq, Int.reduceNe, Int.reduceTDiv, Int.reduceTMod, Int.reduceBNe, Int.reduceBEq, Nat.reduceBNe, hb, tb, length_fe, all_fe, take_fe, splice_fe, orB_fold]
    refine ⟨by kernel_rfl, ?_⟩
    rw [awR_succ]
    simp only [push_cast, reduceCtorEq, reduceIte, Nat.reduceAdd, Nat.reduceSub, Nat.reduceMul, Nat.reduceLT, Nat.reduceLeDiff, Nat.reduceEqDiff, Nat.reduceBEq, Int.reduceLT, Int.reduceLE, Int.reduceToNat, Int.reduceAdd, Int.reduceMul, Int.reduceNeg, Int.reduceSub, UInt64.reduceOfNat, UInt32.reduceOfNat, UInt8.reduceOfNat, UInt64.reduceToNat, UInt32.reduceToNat, UInt8.reduceToNat, Int.reduceEq, Int.reduceNe, Int.reduceTDiv, Int.reduceTMod, Int.reduceBNe, Int.reduceBEq, Nat.reduceBNe, hb, tb, length_fe, all_fe, take_fe, splice_fe, orB_fold]
    refine ⟨by kernel_rfl, ?_⟩
    rw [awR_succ]
    simp only [push_cast, reduceCtorEq, reduceIte, Nat.reduceAdd, Nat.reduceSub, Nat.reduceMul, Nat.reduceLT, Nat.reduceLeDiff, Nat.reduceEqDiff, Nat.reduceBEq, Int.reduceLT, Int.reduceLE, Int.reduceToNat, Int.reduceAdd, Int.reduceMul, Int.reduceNeg, Int.reduceSub, UInt64.reduceOfNat, UInt32.reduceOfNat, UInt8.reduceOfNat, UInt64.reduceToNat, UInt32.reduceToNat, UInt8.reduceToNat, Int.reduceEq, Int.reduceNe, Int.reduceTDiv, Int.reduceTMod, Int.reduceBNe, Int.reduceBEq, Nat.reduceBNe, hb, tb, length_fe, all_fe, take_fe, splice_fe, orB_fold]
    refine ⟨by kernel_rfl, ?_⟩
    rw [awR_succ]
    simp only [push_cast, reduceCtorEq, reduceIte, Nat.reduceAdd, Nat.reduceSub, Nat.reduceMul, Nat.reduceLT, Nat.reduceLeDiff, Nat.reduceEqDiff, Nat.reduceBEq, Int.reduceLT, Int.reduceLE, Int.reduceToNat, Int.reduceAdd, Int.reduceMul, Int.reduceNeg, Int.reduceSub, UInt64.reduceOfNat, UInt32.reduceOfNat, UInt8.reduceOfNat, UInt64.reduceToNat, UInt32.reduceToNat, UInt8.reduceToNat, Int.reduceEq, Int.reduceNe, Int.reduceTDiv, Int.reduceTMod, Int.reduceBNe, Int.reduceBEq, Nat.reduceBNe, hb, tb, length_fe, all_fe, take_fe, splice_fe, orB_fold]
    refine ⟨by kernel_rfl, ?_⟩
    rw [awR_succ]
    simp only [push_cast, reduceCtorEq, reduceIte, Nat.reduceAdd, Nat.reduceSub, Nat.reduceMul, Nat.reduceLT, Nat.reduceLeDiff, Nat.reduceEqDiff, Nat.reduceBEq, Int.reduceLT, Int.reduceLE, Int.reduceToNat, Int.reduceAdd, Int.reduceMul, Int.reduceNeg, Int.reduceSub, UInt64.reduceOfNat, UInt32.reduceOfNat, UInt8.reduceOfNat, UInt64.reduceToNat, UInt32.reduceToNat, UInt8.reduceToNat, Int.reduceEq, Int.reduceNe, Int.reduceTDiv, Int.reduceTMod, Int.reduceBNe, Int.reduceBEq, Nat.reduceBNe, hb, tb, length_fe, all_fe, take_fe, splice_fe, orB_fold]
    refine ⟨by kernel_rfl, ?_⟩
    rw [awR_succ]
    simp only [push_cast, reduceCtorEq, reduceIte, Nat.reduceAdd, Nat.reduceSub, Nat.reduceMul, Nat.reduceLT, Nat.reduceLeDiff, Nat.reduceEqDiff, Nat.reduceBEq, Int.reduceLT, Int.reduceLE, Int.reduceToNat, Int.reduceAdd, Int.reduceMul, Int.reduceNeg, Int.reduceSub, UInt64.reduceOfNat, UInt32.reduceOfNat, UInt8.reduceOfNat, UInt64.reduceToNat, UInt32.reduceToNat, UInt8.reduceToNat, Int.reduceEq, Int.reduceNe, Int.reduceTDiv, Int.reduceTMod, Int.reduceBNe, Int.reduceBEq, Nat.reduceBNe, hb, tb, length_fe, all_fe, take_fe, splice_fe, orB_fold]
    refine ⟨by kernel_rfl, ?_⟩
    rw [awR_succ]
    simp only [push_cast, reduceCtorEq, reduceIte, Nat.reduceAdd, Nat.reduceSub, Nat.reduceMul, Nat.reduceLT, Nat.reduceLeDiff, Nat.reduceEqDiff, Nat.reduceBEq, Int.reduceLT, Int.reduceLE, Int.reduceToNat, Int.reduceAdd, Int.reduceMul, Int.reduceNeg, Int.reduceSub, UInt64.reduceOfNat, UInt32.reduceOfNat, UInt8.reduceOfNat, UInt64.reduceToNat, UInt32.reduceToNat, UInt8.reduceToNat, Int.reduceEq, Int.reduceNe, Int.reduceTDiv, Int.reduceTMod, Int.reduceBNe, Int.reduceBEq, Nat.reduceBNe, hb, tb, length_fe, all_fe, take_fe, splice_fe, orB_fold]
    refine ⟨by kernel_rfl, ?_⟩
    rw [awR_succ]
    simp only [push_cast, reduceCtorEq, reduceIte, Nat.reduceAdd, Nat.reduceSub, Nat.reduceMul, Nat.reduceLT, Nat.reduceLeDiff, Nat.reduceEqDiff, Nat.reduceBEq, Int.reduceLT, Int.reduceLE, Int.reduceToNat, Int.reduceAdd, Int.reduceMul, Int.reduceNeg, Int.reduceSub, UInt64.reduceOfNat, UInt32.reduceOfNat, UInt8.reduceOfNat, UInt64.reduceToNat, UInt32.reduceToNat, UInt8.reduceToNat, Int.reduceEq, Int.reduceNe, Int.reduceTDiv, Int.reduceTMod, Int.reduceBNe, Int.reduceBEq, Nat.reduceBNe, hb, tb, length_fe, all_fe, take_fe, splice_fe, orB_fold]
    refine ⟨by kernel_rfl, ?_⟩
    rw [awR_succ]
    simp only [push_cast, reduceCtorEq, reduceIte, Nat.reduceAdd, Nat.reduceSub, Nat.reduceMul, Nat.reduceLT, Nat.reduceLeDiff, Nat.reduceEqDiff, Nat.reduceBEq, Int.reduceLT, Int.reduceLE, Int.reduceToNat, Int.reduceAdd, Int.reduceMul, Int.reduceNeg, Int.reduceSub, UInt64.reduceOfNat, UInt32.reduceOfNat, UInt8.reduceOfNat, UInt64.reduceToNat, UInt32.reduceToNat, UInt8.reduceToNat, Int.reduceEq, Int.reduceNe, Int.reduceTDiv, Int.reduceTMod, Int.reduceBNe, Int.reduceBEq, Nat.reduceBNe, hb, tb, length_fe, all_fe, take_fe, splice_fe, orB_fold]
    refine ⟨by kernel_rfl, ?_⟩
    rw [awR_succ]
    simp only [push_cast, reduceCtorEq, reduceIte, Nat.reduceAdd, Nat.reduceSub, Nat.reduceMul, Nat.reduceLT, Nat.reduceLeDiff, Nat.reduceEqDiff, Nat.reduceBEq, Int.reduceLT, Int.reduceLE, Int.reduceToNat, Int.reduceAdd, Int.reduceMul, Int.reduceNeg, Int.reduceSub, UInt64.reduceOfNat, UInt32.reduceOfNat, UInt8.reduceOfNat, UInt64.reduceToNat, UInt32.reduceToNat, UInt8.reduceToNat, Int.reduceEq, Int.reduceNe, Int.reduceTDiv, Int.reduceTMod, Int.reduceBNe, Int.reduceBEq, Nat.reduceBNe, hb, tb, length_fe, all_fe, take_fe, splice_fe, orB_fold]
    refine ⟨by kernel_rfl, ?_⟩
    rw [awR_succ]
    simp only [push_cast, reduceCtorEq, reduceIte, Nat.reduceAdd, Nat.reduceSub, Nat.reduceMul, Nat.reduceLT, Nat.reduceLeDiff, Nat.reduceEqDiff, Nat.reduceBEq, Int.reduceLT, Int.reduceLE, Int.reduceToNat, Int.reduceAdd, Int.reduceMul, Int.reduceNeg, Int.reduceSub, UInt64.reduceOfNat, UInt32.reduceOfNat, UInt8.reduceOfNat, UInt64.reduceToNat, UInt32.reduceToNat, UInt8.reduceToNat, Int.reduceEq, Int.reduceNe, Int.reduceTDiv, Int.reduceTMod, Int.reduceBNe, Int.reduceBEq, Nat.reduceBNe, hb, tb, length_fe, all_fe, take_fe, splice_fe, orB_fold]
    refine ⟨by kernel_rfl, ?_⟩
    rw [awR_succ]
    simp only [push_cast, reduceCtorEq, reduceIte, Nat.reduceAdd, Nat.reduceSub, Nat.reduceMul, Nat.reduceLT, Nat.reduceLeDiff, Nat.reduceEqDiff, Nat.reduceBEq, Int.reduceLT, Int.reduceLE, Int.reduceToNat, Int.reduceAdd, Int.reduceMul, Int.reduceNeg, Int.reduceSub, UInt64.reduceOfNat, UInt32.reduceOfNat, UInt8.reduceOfNat, UInt64.reduceToNat, UInt32.reduceToNat, UInt8.reduceToNat, Int.reduceEq, Int.reduceNe, Int.reduceTDiv, Int.reduceTMod, Int.reduceBNe, Int.reduceBEq, Nat.reduceBNe, hb, tb, length_fe, all_fe, take_fe, splice_fe, orB_fold]
    refine ⟨by kernel_rfl, ?_⟩
    rw [awR_succ]
    simp only [push_cast, reduceCtorEq, reduceIte, Nat.reduceAdd, Nat.reduceSub, Nat.reduceMul, Nat.reduceLT, Nat.reduceLeDiff, Nat.reduceEqDiff, Nat.reduceBEq, Int.reduceLT, Int.reduceLE, Int.reduceToNat, Int.reduceAdd, Int.reduceMul, Int.reduceNeg, Int.reduceSub, UInt64.reduceOfNat, UInt32.reduceOfNat, UInt8.reduceOfNat, UInt64.reduceToNat, UInt32.reduceToNat, UInt8.reduceToNat, Int.reduceEq, Int.reduceNe, Int.reduceTDiv, Int.reduceTMod, Int.reduceBNe, Int.reduceBEq, Nat.reduceBNe, hb, tb, length_fe, all_fe, take_fe, splice_fe, orB_fold]
    refine ⟨by kernel_rfl, ?_⟩
    rw [awR_succ]
    simp only [push_cast, reduceCtorEq, reduceIte, Nat.reduceAdd, Nat.reduceSub, Nat.reduceMul, Nat.reduceLT, Nat.reduceLeDiff, Nat.reduceEqDiff, Nat.reduceBEq, Int.reduceLT, Int.reduceLE, Int.reduceToNat, Int.reduceAdd, Int.reduceMul, Int.reduceNeg, Int.reduceSub, UInt64.reduceOfNat, UInt32.reduceOfNat, UInt8.reduceOfNat, UInt64.reduceToNat, UInt32.reduceToNat, UInt8.reduceToNat, Int.reduceEq, Int.reduceNe, Int.reduceTDiv, Int.reduceTMod, Int.reduceBNe, Int.reduceBEq, Nat.reduceBNe, hb, tb, length_fe, all_fe, take_fe, splice_fe, orB_fold]
    have hl := from_law hb
    have lt1 : leB b % 57896044618658097711785492504343953926634992332820282019728792003956564819968 < top := Nat.lt_trans (Nat.mod_lt _ (by decide)) (by decide : 57896044618658097711785492504343953926634992332820282019728792003956564819968 < top)
    have hs := settled_f lt1
    rw [← hl, fe_val, hl] at hs
    refine ACall.of_f hs ?_
    simp only [Tryd.f11, push_cast, reduceCtorEq, reduceIte, Nat.reduceAdd, Nat.reduceSub, Nat.reduceMul, Nat.reduceLT, Nat.reduceLeDiff, Nat.reduceEqDiff, Nat.reduceBEq, Int.reduceLT, Int.reduceLE, Int.reduceToNat, Int.reduceAdd, Int.reduceMul, Int.reduceNeg, Int.reduceSub, UInt64.reduceOfNat, UInt32.reduceOfNat, UInt8.reduceOfNat, UInt64.reduceToNat, UInt32.reduceToNat, UInt8.reduceToNat, Int.reduceEq, Int.reduceNe, Int.reduceTDiv, Int.reduceTMod, Int.reduceBNe, Int.reduceBEq, Nat.reduceBNe, hb, tb, length_fe, all_fe, take_fe, splice_fe, orB_fold]
end Go.Proofs.YtfjmpdoidkblcaaDoor
