import Derived.Test.YtfjmpdoidkblcaaDoorFldG
set_option linter.unusedSimpArgs false
set_option linter.unusedVariables false
namespace Go.Proofs.YtfjmpdoidkblcaaDoor
open Go Go.Ab Go.Fld

theorem inv_bits : (List.range 255).all (fun i => (prm - 2) / 2 ^ i == 2 * ((prm - 2) / 2 ^ (i + 1)) + if i = 4 ∨ i = 2 then 0 else 1) = true := by kernel_rfl
theorem inv_bit {i : Nat} (h : i < 255) : (prm - 2) / 2 ^ i = 2 * ((prm - 2) / 2 ^ (i + 1)) + if i = 4 ∨ i = 2 then 0 else 1 := by
  have := List.all_eq_true.1 inv_bits i (List.mem_range.2 h)
  exact eq_of_beq this

theorem inv_sq0 (a : Nat) {x y : Nat} (h : x = 2 * y) : a ^ y % prm * (a ^ y % prm) % prm = a ^ x % prm := by
  rw [← Nat.mul_mod, ← Nat.pow_add, h, Nat.two_mul]
theorem inv_sq1 (a : Nat) {x y : Nat} (h : x = 2 * y + 1) : a ^ y % prm * (a ^ y % prm) % prm * a % prm = a ^ x % prm := by
  rw [inv_sq0 a rfl, Nat.mod_mul_mod, ← Nat.pow_succ, h]

def invI (a : Nat) (k : Nat) (s : St) : Prop := ∃ n : Int, k ≤ 255 ∧ n = (k : Int) - 1 ∧ s.t.length = 28 ∧ s.t.getD 1 .any = .ptr 0 0 ∧ s.t.getD 2 .any = .ptr 1 0 ∧ s.t.getD 3 .any = .int .i64 0 ∧ s.t.getD 4 .any = .ptr 2 0 ∧ s.t.getD 5 .any = .int .i64 n ∧
  s.H = [Ent.blk (fe a) [], Ent.blk (fe 0) [], Ent.blk (fe (a ^ ((prm - 2) / 2 ^ k) % prm)) []]

set_option maxHeartbeats 4000000 in
set_option maxRecDepth 10000 in
theorem Inv_f {a : Nat} (ha : a < prm) : FCall Tryd.prog GL 18 [.agg (fe a)] (.tup [.agg (fe (a ^ (prm - 2) % prm)), .int .i64 0]) := by
  have lat := Nat.lt_trans ha prm_top
  refine FCall.of_acall ?_ ?_ ?_
  · exact PureL_cons (Pure_fe _) PureL_nil
  · exact Pure_tup (PureL_cons (Pure_fe _) (PureL_cons (Pure_int _ _) PureL_nil))
  · refine ACall.of_body Tryd.func18 rfl ?_
    simp only [push_cast, reduceCtorEq, reduceIte, Nat.reduceAdd, Nat.reduceSub, Nat.reduceMul, Nat.reduceLT, Nat.reduceLeDiff, Nat.reduceEqDiff, Nat.reduceBEq, Int.reduceLT, Int.reduceLE, Int.reduceToNat, Int.reduceAdd, Int.reduceMul, Int.reduceNeg, Int.reduceSub, UInt64.reduceOfNat, UInt32.reduceOfNat, UInt8.reduceOfNat, UInt64.reduceToNat, UInt32.reduceToNat, UInt8.reduceToNat, Int.reduceEq, Int.reduceNe, Int.reduceTDiv, Int.reduceTMod, Int.reduceBNe, Int.reduceBEq, Nat.reduceBNe, Tryd.ntmps18, ← fe_prm, length_fe, all_fe, take_fe, splice_fe]
    have h1 := below_f lat
    rw [decide_eq_true ha] at h1
    refine ACall.of_f h1 ?_
    simp only [push_cast, reduceCtorEq, reduceIte, Nat.reduceAdd, Nat.reduceSub, Nat.reduceMul, Nat.reduceLT, Nat.reduceLeDiff, Nat.reduceEqDiff, Nat.reduceBEq, Int.reduceLT, Int.reduceLE, Int.reduceToNat, Int.reduceAdd, Int.reduceMul, Int.reduceNeg, Int.reduceSub, UInt64.reduceOfNat, UInt32.reduceOfNat, UInt8.reduceOfNat, UInt64.reduceToNat, UInt32.reduceToNat, UInt8.reduceToNat, Int.reduceEq, Int.reduceNe, Int.reduceTDiv, Int.reduceTMod, Int.reduceBNe, Int.reduceBEq, Nat.reduceBNe, ← fe_prm, length_fe, all_fe, take_fe, splice_fe]
    refine Tri.loop (invI a) 255 ?_ ?_
    · refine ⟨254, Nat.le_refl _, rfl, rfl, rfl, rfl, rfl, rfl, rfl, ?_⟩
      rw [show (prm - 2) / 2 ^ 255 = 0 by decide, Nat.pow_zero, show 1 % prm = 1 by decide]
      rfl
    · rintro k ⟨t, H⟩ ⟨n, hk, hn, ht, t1, t2, t3, t4, t5, hH⟩
      simp only at ht t1 t2 t3 t4 t5 hH
      subst hH
      rw [eta_t ht]
      apply aw_sound
      cases k with
      | zero =>
        obtain rfl : n = -1 := by omega
        simp only [t1, t2, t3, t4, t5, Tryd.f18, push_cast, reduceCtorEq, reduceIte, Nat.reduceAdd, Nat.reduceSub, Nat.reduceMul, Nat.reduceLT, Nat.reduceLeDiff, Nat.reduceEqDiff, Nat.reduceBEq, Int.reduceLT, Int.reduceLE, Int.reduceToNat, Int.reduceAdd, Int.reduceMul, Int.reduceNeg, Int.reduceSub, UInt64.reduceOfNat, UInt32.reduceOfNat, UInt8.reduceOfNat, UInt64.reduceToNat, UInt32.reduceToNat, UInt8.reduceToNat, Int.reduceEq, Int.reduceNe, Int.reduceTDiv, Int.reduceTMod, Int.reduceBNe, Int.reduceBEq, Nat.reduceBNe, ← fe_prm, length_fe, all_fe, take_fe, splice_fe]
        rw [Nat.pow_zero, Nat.div_one]
      | succ j =>
        obtain rfl : n = (j : Int) := by omega
        have hc : (0 : Int) ≤ j := by omega
        have hw : IntKind.i64.wrap ((j : Int) - 1) = (j : Int) - 1 := wrap_i64_of (by omega) (by omega)
        have hb := inv_bit (i := j) (by omega)
        by_cases h4 : j = 4
        · subst h4
          have n4 : (((4 : Nat) : Int) != 4) = false := by decide
          rw [if_pos (.inl rfl), Nat.add_zero] at hb
          simp only [hc, hw, n4, t1, t2, t3, t4, t5, push_cast, reduceCtorEq, reduceIte, Nat.reduceAdd, Nat.reduceSub, Nat.reduceMul, Nat.reduceLT, Nat.reduceLeDiff, Nat.reduceEqDiff, Nat.reduceBEq, Int.reduceLT, Int.reduceLE, Int.reduceToNat, Int.reduceAdd, Int.reduceMul, Int.reduceNeg, Int.reduceSub, UInt64.reduceOfNat, UInt32.reduceOfNat, UInt8.reduceOfNat, UInt64.reduceToNat, UInt32.reduceToNat, UInt8.reduceToNat, Int.reduceEq, Int.reduceNe, Int.reduceTDiv, Int.reduceTMod, Int.reduceBNe, Int.reduceBEq, Nat.reduceBNe, ← fe_prm, length_fe, all_fe, take_fe, splice_fe]
          refine ACall.of_f (mul_f (mod_top _) (mod_top _)) ?_
          simp only [hc, hw, n4, t1, t2, t3, t4, t5, push_cast, reduceCtorEq, reduceIte, Nat.reduceAdd, Nat.reduceSub, Nat.reduceMul, Nat.reduceLT, Nat.reduceLeDiff, Nat.reduceEqDiff, Nat.reduceBEq, Int.reduceLT, Int.reduceLE, Int.reduceToNat, Int.reduceAdd, Int.reduceMul, Int.reduceNeg, Int.reduceSub, UInt64.reduceOfNat, UInt32.reduceOfNat, UInt8.reduceOfNat, UInt64.reduceToNat, UInt32.reduceToNat, UInt8.reduceToNat, Int.reduceEq, Int.reduceNe, Int.reduceTDiv, Int.reduceTMod, Int.reduceBNe, Int.reduceBEq, Nat.reduceBNe, ← fe_prm, length_fe, all_fe, take_fe, splice_fe]
          exact ⟨_, Nat.lt_succ_self _, _, by omega, rfl, rfl, rfl, rfl, rfl, rfl, rfl, by rw [inv_sq0 a hb]⟩
        · have n4 : ((j : Int) != 4) = true := by simpa using (show ¬ (j : Int) = 4 by omega)
          by_cases h2 : j = 2
          · subst h2
            have n2 : (((2 : Nat) : Int) != 2) = false := by decide
            rw [if_pos (.inr rfl), Nat.add_zero] at hb
            simp only [hc, hw, n4, n2, t1, t2, t3, t4, t5, push_cast, reduceCtorEq, reduceIte, Nat.reduceAdd, Nat.reduceSub, Nat.reduceMul, Nat.reduceLT, Nat.reduceLeDiff, Nat.reduceEqDiff, Nat.reduceBEq, Int.reduceLT, Int.reduceLE, Int.reduceToNat, Int.reduceAdd, Int.reduceMul, Int.reduceNeg, Int.reduceSub, UInt64.reduceOfNat, UInt32.reduceOfNat, UInt8.reduceOfNat, UInt64.reduceToNat, UInt32.reduceToNat, UInt8.reduceToNat, Int.reduceEq, Int.reduceNe, Int.reduceTDiv, Int.reduceTMod, Int.reduceBNe, Int.reduceBEq, Nat.reduceBNe, ← fe_prm, length_fe, all_fe, take_fe, splice_fe]
            refine ACall.of_f (mul_f (mod_top _) (mod_top _)) ?_
            simp only [hc, hw, n4, n2, t1, t2, t3, t4, t5, push_cast, reduceCtorEq, reduceIte, Nat.reduceAdd, Nat.reduceSub, Nat.reduceMul, Nat.reduceLT, Nat.reduceLeDiff, Nat.reduceEqDiff, Nat.reduceBEq, Int.reduceLT, Int.reduceLE, Int.reduceToNat, Int.reduceAdd, Int.reduceMul, Int.reduceNeg, Int.reduceSub, UInt64.reduceOfNat, UInt32.reduceOfNat, UInt8.reduceOfNat, UInt64.reduceToNat, UInt32.reduceToNat, UInt8.reduceToNat, Int.reduceEq, Int.reduceNe, Int.reduceTDiv, Int.reduceTMod, Int.reduceBNe, Int.reduceBEq, Nat.reduceBNe, ← fe_prm, length_fe, all_fe, take_fe, splice_fe]
            exact ⟨_, Nat.lt_succ_self _, _, by omega, rfl, rfl, rfl, rfl, rfl, rfl, rfl, by rw [inv_sq0 a hb]⟩
          · have n2 : ((j : Int) != 2) = true := by simpa using (show ¬ (j : Int) = 2 by omega)
            rw [if_neg (by omega)] at hb
            simp only [hc, hw, n4, n2, t1, t2, t3, t4, t5, push_cast, reduceCtorEq, reduceIte, Nat.reduceAdd, Nat.reduceSub, Nat.reduceMul, Nat.reduceLT, Nat.reduceLeDiff, Nat.reduceEqDiff, Nat.reduceBEq, Int.reduceLT, Int.reduceLE, Int.reduceToNat, Int.reduceAdd, Int.reduceMul, Int.reduceNeg, Int.reduceSub, UInt64.reduceOfNat, UInt32.reduceOfNat, UInt8.reduceOfNat, UInt64.reduceToNat, UInt32.reduceToNat, UInt8.reduceToNat, Int.reduceEq, Int.reduceNe, Int.reduceTDiv, Int.reduceTMod, Int.reduceBNe, Int.reduceBEq, Nat.reduceBNe, ← fe_prm, length_fe, all_fe, take_fe, splice_fe]
            refine ACall.of_f (mul_f (mod_top _) (mod_top _)) ?_
            simp only [hc, hw, n4, n2, t1, t2, t3, t4, t5, push_cast, reduceCtorEq, reduceIte, Nat.reduceAdd, Nat.reduceSub, Nat.reduceMul, Nat.reduceLT, Nat.reduceLeDiff, Nat.reduceEqDiff, Nat.reduceBEq, Int.reduceLT, Int.reduceLE, Int.reduceToNat, Int.reduceAdd, Int.reduceMul, Int.reduceNeg, Int.reduceSub, UInt64.reduceOfNat, UInt32.reduceOfNat, UInt8.reduceOfNat, UInt64.reduceToNat, UInt32.reduceToNat, UInt8.reduceToNat, Int.reduceEq, Int.reduceNe, Int.reduceTDiv, Int.reduceTMod, Int.reduceBNe, Int.reduceBEq, Nat.reduceBNe, ← fe_prm, length_fe, all_fe, take_fe, splice_fe]
            refine ACall.of_f (mul_f (mod_top _) lat) ?_
            simp only [hc, hw, n4, n2, t1, t2, t3, t4, t5, push_cast, reduceCtorEq, reduceIte, Nat.reduceAdd, Nat.reduceSub, Nat.reduceMul, Nat.reduceLT, Nat.reduceLeDiff, Nat.reduceEqDiff, Nat.reduceBEq, Int.reduceLT, Int.reduceLE, Int.reduceToNat, Int.reduceAdd, Int.reduceMul, Int.reduceNeg, Int.reduceSub, UInt64.reduceOfNat, UInt32.reduceOfNat, UInt8.reduceOfNat, UInt64.reduceToNat, UInt32.reduceToNat, UInt8.reduceToNat, Int.reduceEq, Int.reduceNe, Int.reduceTDiv, Int.reduceTMod, Int.reduceBNe, Int.reduceBEq, Nat.reduceBNe, ← fe_prm, length_fe, all_fe, take_fe, splice_fe]
            exact ⟨_, Nat.lt_succ_self _, _, by omega, rfl, rfl, rfl, rfl, rfl, rfl, rfl, by rw [inv_sq1 a hb]⟩
end Go.Proofs.YtfjmpdoidkblcaaDoor
