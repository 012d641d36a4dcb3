import Derived.Test.YtfjmpdoidkblcaaDoorFldJ
import Derived.Test.YtfjmpdoidkblcaaDoorFldP
set_option linter.unusedSimpArgs false
set_option linter.unusedVariables false
namespace Go.Proofs.YtfjmpdoidkblcaaDoor
open Go Go.Ab Go.Fld

theorem rowEq_u64s : ∀ (a b : List UInt64), a.length = b.length → rowEq (.int .u64) (u64s a) (u64s b) = some (a == b)
  | [], [], _ => rfl
  | [], _ :: _, h => by simp at h
  | _ :: _, [], h => by simp at h
  | x :: a, y :: b, h => by
    have ih := rowEq_u64s a b (by simpa using h)
    simp only [u64s, List.map_cons] at ih ⊢
    simp only [rowEq, ih, aeqK]
    rfl
theorem fe_beq {a b : Nat} (ha : a < top) (hb : b < top) : rowEq (.int .u64) (fe a) (fe b) = some (decide (a = b)) := by
  unfold fe
  rw [rowEq_u64s _ _ (by simp)]
  congr 1
  rw [Bool.eq_iff_iff, beq_iff_eq, decide_eq_true_eq]
  constructor
  · intro h; exact fe_inj ha hb (congrArg u64s h)
  · intro h; rw [h]

theorem prm_lt_top {a : Nat} (h : a < prm) : a < top := Nat.lt_trans h prm_top

theorem Bytes_f {a : Nat} (ha : a < prm) : FCall Tryd.prog GL 12 [.agg (fe a)] (.tup [.agg (u8s (bytesN 32 a)), .int .i64 0]) := by
  obtain ⟨a0, a1, a2, a3, rfl⟩ := val_ex (prm_lt_top ha)
  rw [bytes_law, fe_val]
  exact Bytes_w a0 a1 a2 a3 ha

set_option maxHeartbeats 4000000 in
set_option maxRecDepth 10000 in
theorem Bytes_no {a : Nat} (ha : a < top) (h : ¬ a < prm) : FCall Tryd.prog GL 12 [.agg (fe a)] (.tup [.agg (u8s (List.replicate 32 0)), .int .i64 6]) := by
  have hb := below_f ha
  rw [decide_eq_false h] at hb
  refine FCall.of_acall ?_ ?_ ?_
  · exact PureL_cons (Pure_fe _) PureL_nil
  · exact Pure_tup (PureL_cons (Pure_agg (PureL_u8s _)) (PureL_cons (Pure_int _ _) PureL_nil))
  · refine ACall.of_body Tryd.func12 rfl ?_
    simp only [push_cast, reduceCtorEq, reduceIte, Nat.reduceAdd, Nat.reduceSub, Nat.reduceMul, Nat.reduceLT, Nat.reduceLeDiff, Nat.reduceEqDiff, Nat.reduceBEq, Int.reduceLT, Int.reduceLE, Int.reduceToNat, Int.reduceAdd, Int.reduceMul, Int.reduceNeg, Int.reduceSub, UInt64.reduceOfNat, UInt32.reduceOfNat, UInt8.reduceOfNat, UInt64.reduceToNat, UInt32.reduceToNat, UInt8.reduceToNat, Int.reduceEq, Int.reduceNe, Int.reduceTDiv, Int.reduceTMod, Int.reduceBNe, Int.reduceBEq, Nat.reduceBNe, Tryd.ntmps12, ← fe_prm, length_fe, all_fe, take_fe, splice_fe]
    refine ACall.of_f hb ?_
    simp only [push_cast, reduceCtorEq, reduceIte, Nat.reduceAdd, Nat.reduceSub, Nat.reduceMul, Nat.reduceLT, Nat.reduceLeDiff, Nat.reduceEqDiff, Nat.reduceBEq, Int.reduceLT, Int.reduceLE, Int.reduceToNat, Int.reduceAdd, Int.reduceMul, Int.reduceNeg, Int.reduceSub, UInt64.reduceOfNat, UInt32.reduceOfNat, UInt8.reduceOfNat, UInt64.reduceToNat, UInt32.reduceToNat, UInt8.reduceToNat, Int.reduceEq, Int.reduceNe, Int.reduceTDiv, Int.reduceTMod, Int.reduceBNe, Int.reduceBEq, Nat.reduceBNe, Tryd.f12, ← fe_prm, length_fe, all_fe, take_fe, splice_fe]

theorem From_b (b : List UInt8) (hb : b.length = 32) : ∃ n, n < prm ∧ n = leB b % 57896044618658097711785492504343953926634992332820282019728792003956564819968 % prm ∧ FCall Tryd.prog GL 11 [.agg (u8s b)] (.agg (fe n)) :=
  ⟨_, mod_lt _, rfl, From_f b hb⟩

theorem From_bytes {n : Nat} (h : n < prm) : FCall Tryd.prog GL 11 [.agg (u8s (bytesN 32 n))] (.agg (fe n)) := by
  have := From_f (bytesN 32 n) (length_bytesN _ _)
  have e : prm < 57896044618658097711785492504343953926634992332820282019728792003956564819968 := by decide
  rw [leB_bytesN 32 n (Nat.lt_trans (Nat.lt_trans h e) (by decide)), Nat.mod_eq_of_lt (Nat.lt_trans h e), Nat.mod_eq_of_lt h] at this
  exact this

theorem getD_u8s_31 {l : List UInt8} (h : l.length = 32) : (u8s l).getD 31 .any = .u8 (l.getD 31 0) := getD_u8s l 31 (by omega)
theorem ones_fe : u64s [18446744073709551615, 18446744073709551615, 18446744073709551615, 18446744073709551615] = fe (top - 1) := rfl

set_option maxHeartbeats 4000000 in
set_option maxRecDepth 10000 in
theorem bytesBack_f (x : List UInt8) (hx : x.length = 32) : FCall Tryd.prog GL 3 [.agg (u8s x)] (.bool true) := by
  have tx : x.take 32 = x := List.take_of_length_le (by omega)
  obtain ⟨n, hn, _, hF⟩ := From_b x hx
  have hB := Bytes_f hn
  have hG := From_bytes hn
  have hO := Bytes_no (a := top - 1) (by decide) (by decide)
  have hl := length_bytesN 32 n
  have tb : (bytesN 32 n).take 32 = bytesN 32 n := List.take_of_length_le (by omega)
  have h31 := bytesN_last (Nat.lt_trans hn (by decide))
  refine FCall.of_acall ?_ ?_ ?_
  · exact PureL_cons (Pure_agg (PureL_u8s _)) PureL_nil
  · exact Pure_bool _
  · refine ACall.of_body Tryd.func3 rfl ?_
    simp only [push_cast, reduceCtorEq, reduceIte, Nat.reduceAdd, Nat.reduceSub, Nat.reduceMul, Nat.reduceLT, Nat.reduceLeDiff, Nat.reduceEqDiff, Nat.reduceBEq, Int.reduceLT, Int.reduceLE, Int.reduceToNat, Int.reduceAdd, Int.reduceMul, Int.reduceNeg, Int.reduceSub, UInt64.reduceOfNat, UInt32.reduceOfNat, UInt8.reduceOfNat, UInt64.reduceToNat, UInt32.reduceToNat, UInt8.reduceToNat, Int.reduceEq, Int.reduceNe, Int.reduceTDiv, Int.reduceTMod, Int.reduceBNe, Int.reduceBEq, Nat.reduceBNe, Tryd.ntmps3, hx, tx, length_fe, all_fe, take_fe, splice_fe]
    refine ACall.of_f hF ?_
    simp only [push_cast, reduceCtorEq, reduceIte, Nat.reduceAdd, Nat.reduceSub, Nat.reduceMul, Nat.reduceLT, Nat.reduceLeDiff, Nat.reduceEqDiff, Nat.reduceBEq, Int.reduceLT, Int.reduceLE, Int.reduceToNat, Int.reduceAdd, Int.reduceMul, Int.reduceNeg, Int.reduceSub, UInt64.reduceOfNat, UInt32.reduceOfNat, UInt8.reduceOfNat, UInt64.reduceToNat, UInt32.reduceToNat, UInt8.reduceToNat, Int.reduceEq, Int.reduceNe, Int.reduceTDiv, Int.reduceTMod, Int.reduceBNe, Int.reduceBEq, Nat.reduceBNe, hx, tx, length_fe, all_fe, take_fe, splice_fe]
    refine ACall.of_f hB ?_
    simp only [push_cast, reduceCtorEq, reduceIte, Nat.reduceAdd, Nat.reduceSub, Nat.reduceMul, Nat.reduceLT, Nat.reduceLeDiff, Nat.reduceEqDiff, Nat.reduceBEq, Int.reduceLT, Int.reduceLE, Int.reduceToNat, Int.reduceAdd, Int.reduceMul, Int.reduceNeg, Int.reduceSub, UInt64.reduceOfNat, UInt32.reduceOfNat, UInt8.reduceOfNat, UInt64.reduceToNat, UInt32.reduceToNat, UInt8.reduceToNat, Int.reduceEq, Int.reduceNe, Int.reduceTDiv, Int.reduceTMod, Int.reduceBNe, Int.reduceBEq, Nat.reduceBNe, hx, tx, hl, tb, length_fe, all_fe, take_fe, splice_fe]
    rw [ones_fe]
    refine ACall.of_f hO ?_
    simp only [push_cast, reduceCtorEq, reduceIte, Nat.reduceAdd, Nat.reduceSub, Nat.reduceMul, Nat.reduceLT, Nat.reduceLeDiff, Nat.reduceEqDiff, Nat.reduceBEq, Int.reduceLT, Int.reduceLE, Int.reduceToNat, Int.reduceAdd, Int.reduceMul, Int.reduceNeg, Int.reduceSub, UInt64.reduceOfNat, UInt32.reduceOfNat, UInt8.reduceOfNat, UInt64.reduceToNat, UInt32.reduceToNat, UInt8.reduceToNat, Int.reduceEq, Int.reduceNe, Int.reduceTDiv, Int.reduceTMod, Int.reduceBNe, Int.reduceBEq, Nat.reduceBNe, hx, tx, hl, tb, length_fe, all_fe, take_fe, splice_fe]
    refine callD_of hG ?_
    simp only [push_cast, reduceCtorEq, reduceIte, Nat.reduceAdd, Nat.reduceSub, Nat.reduceMul, Nat.reduceLT, Nat.reduceLeDiff, Nat.reduceEqDiff, Nat.reduceBEq, Int.reduceLT, Int.reduceLE, Int.reduceToNat, Int.reduceAdd, Int.reduceMul, Int.reduceNeg, Int.reduceSub, UInt64.reduceOfNat, UInt32.reduceOfNat, UInt8.reduceOfNat, UInt64.reduceToNat, UInt32.reduceToNat, UInt8.reduceToNat, Int.reduceEq, Int.reduceNe, Int.reduceTDiv, Int.reduceTMod, Int.reduceBNe, Int.reduceBEq, Nat.reduceBNe, hx, tx, hl, tb, length_fe, all_fe, take_fe, splice_fe, fe_beq (prm_lt_top hn) (prm_lt_top hn), getD_u8s_31 hl]
    have h31' : decide ((((bytesN 32 n).getD 31 0).toNat : Int) < 128) = true := by
      rw [decide_eq_true_eq]; have h := UInt8.lt_iff_toNat_lt.1 h31; rw [show (128 : UInt8).toNat = 128 from rfl] at h; omega
    rw [h31']
    refine ⟨by kernel_rfl, ?_⟩
    simp only [Tryd.f3, push_cast, reduceCtorEq, reduceIte, Nat.reduceAdd, Nat.reduceSub, Nat.reduceMul, Nat.reduceLT, Nat.reduceLeDiff, Nat.reduceEqDiff, Nat.reduceBEq, Int.reduceLT, Int.reduceLE, Int.reduceToNat, Int.reduceAdd, Int.reduceMul, Int.reduceNeg, Int.reduceSub, UInt64.reduceOfNat, UInt32.reduceOfNat, UInt8.reduceOfNat, UInt64.reduceToNat, UInt32.reduceToNat, UInt8.reduceToNat, Int.reduceEq, Int.reduceNe, Int.reduceTDiv, Int.reduceTMod, Int.reduceBNe, Int.reduceBEq, Nat.reduceBNe]
end Go.Proofs.YtfjmpdoidkblcaaDoor
