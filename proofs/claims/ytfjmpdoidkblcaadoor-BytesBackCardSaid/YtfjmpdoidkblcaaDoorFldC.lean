import Derived.Test.YtfjmpdoidkblcaaDoorFldB
set_option linter.unusedSimpArgs false
set_option linter.unusedVariables false
namespace Go.Proofs.YtfjmpdoidkblcaaDoor
open Go Go.Ab Go.Fld

def plusInv (R : Nat) (k : Nat) (s : St) : Prop := ∃ (m : UInt64) (a0 a1 a2 a3 : UInt64), plusN (val a0 a1 a2 a3) m.toNat = R ∧
  (m = 0 ∧ 1 ≤ k ∨ val a0 a1 a2 a3 + m.toNat < top ∧ 2 ≤ k ∨ 3 ≤ k) ∧ s.t.length = 34 ∧ s.t.getD 1 .any = .u64 m ∧ s.t.getD 2 .any = .ptr 0 0 ∧ s.t.getD 4 .any = .ptr 1 0 ∧
  s.H = [Ent.blk (u64s [a0, a1, a2, a3]) [], Ent.blk (fe 0) []]

theorem plusInv_step {R k : Nat} {m a0 a1 a2 a3 : UInt64} {t : List AV} {c : UInt64} (hR : plusN (val a0 a1 a2 a3) m.toNat = R)
    (hk : m = 0 ∧ 1 ≤ k ∨ val a0 a1 a2 a3 + m.toNat < top ∧ 2 ≤ k ∨ 3 ≤ k) (hm : ((m.toNat : Int) != 0) = true)
    (hc : c = carry64 a3 0 (carry64 a2 0 (carry64 a1 0 (carry64 a0 m 0))))
    (ht : t.length = 34 ∧ t.getD 1 .any = .u64 (38 * c) ∧ t.getD 2 .any = .ptr 0 0 ∧ t.getD 4 .any = .ptr 1 0) :
    ∃ j, j < k ∧ plusInv R j ⟨t, [Ent.blk (u64s [a0 + m + 0, a1 + 0 + carry64 a0 m 0, a2 + 0 + carry64 a1 0 (carry64 a0 m 0), a3 + 0 + carry64 a2 0 (carry64 a1 0 (carry64 a0 m 0))]) [], Ent.blk (fe 0) []]⟩ := by
  obtain ⟨b, hb, hb1, hv⟩ := add_val a0 a1 a2 a3 m 0 0 0 0 (by decide)
  have hm0 : m ≠ 0 := by rintro rfl; exact absurd hm (by decide)
  have h38 := times38 c (by rw [hc]; exact hb) hb1
  have l1 := val_lt (a0 + m + 0) (a1 + 0 + carry64 a0 m 0) (a2 + 0 + carry64 a1 0 (carry64 a0 m 0)) (a3 + 0 + carry64 a2 0 (carry64 a1 0 (carry64 a0 m 0)))
  have l2 := val_lt a0 a1 a2 a3
  have l3 := lt64 m
  have e : val m 0 0 0 = m.toNat := by simp [val]
  rw [e] at hv
  have e0 : (0 : UInt64).toNat = 0 := rfl
  rw [e0] at hv
  generalize hr : val (a0 + m + 0) (a1 + 0 + carry64 a0 m 0) (a2 + 0 + carry64 a1 0 (carry64 a0 m 0)) (a3 + 0 + carry64 a2 0 (carry64 a1 0 (carry64 a0 m 0))) = r at *
  have z : b = 0 ∨ b = 1 := by omega
  rcases z with rfl | rfl
  · refine ⟨1, ?_, 38 * c, _, _, _, _, ?_, .inl ⟨?_, Nat.le_refl _⟩, ht.1, ht.2.1, ht.2.2.1, ht.2.2.2, rfl⟩
    · rcases hk with h | h | h
      · exact absurd h.1 hm0
      · omega
      · omega
    · rw [hr, h38, ← hR]; unfold plusN; rw [if_pos (by omega), if_pos (by omega)]; omega
    · apply UInt64.toNat.inj; rw [h38]; rfl
  · have g : top = 115792089237316195423570985008687907853269984665640564039457584007913129639936 := rfl
    refine ⟨2, ?_, 38 * c, _, _, _, _, ?_, .inr (.inl ⟨?_, Nat.le_refl _⟩), ht.1, ht.2.1, ht.2.2.1, ht.2.2.2, rfl⟩
    · rcases hk with h | h | h
      · exact absurd h.1 hm0
      · omega
      · omega
    · rw [hr, h38, ← hR]; unfold plusN; rw [if_pos (by omega), if_neg (by omega)]; omega
    · rw [hr, h38]; omega

set_option maxHeartbeats 4000000 in
set_option maxRecDepth 10000 in
theorem plus_f {a : Nat} (ha : a < top) (n : UInt64) : FCall Tryd.prog GL 34 [.agg (fe a), .u64 n] (.agg (fe (plusN a n.toNat))) := by
  refine FCall.of_acall ?_ ?_ ?_
  · exact PureL_cons (Pure_fe _) (PureL_cons (Pure_u64 _) PureL_nil)
  · exact Pure_fe _
  · refine ACall.of_body Tryd.func34 rfl ?_
    simp only [push_cast, reduceCtorEq, reduceIte, Nat.reduceAdd, Nat.reduceSub, Nat.reduceMul, Nat.reduceLT, Nat.reduceLeDiff, Nat.reduceEqDiff, Nat.reduceBEq, Int.reduceLT, Int.reduceLE, Int.reduceToNat, Int.reduceAdd, Int.reduceMul, Int.reduceNeg, Int.reduceSub, UInt64.reduceOfNat, UInt32.reduceOfNat, UInt8.reduceOfNat, UInt64.reduceToNat, UInt32.reduceToNat, UInt8.reduceToNat, Int.reduceEq, Int.reduceNe, Int.reduceTDiv, Int.reduceTMod, Int.reduceBNe, Int.reduceBEq, Nat.reduceBNe, Tryd.ntmps34, ← fe_prm, length_fe, all_fe, take_fe, splice_fe]
    refine Tri.loop (plusInv (plusN a n.toNat)) 3 ?_ ?_
    · obtain ⟨a0, a1, a2, a3, rfl⟩ := val_ex ha
      refine ⟨n, a0, a1, a2, a3, rfl, .inr (.inr (Nat.le_refl _)), rfl, rfl, rfl, rfl, ?_⟩
      rw [fe_val]; rfl
    · rintro k ⟨t, H⟩ ⟨m, a0, a1, a2, a3, hR, hk, ht, t1, t2, t4, hH⟩
      simp only at ht t1 t2 t4 hH
      subst hH
      rw [eta_t ht]
      apply aw_sound
      simp only [t1, t2, t4, push_cast, reduceCtorEq, reduceIte, Nat.reduceAdd, Nat.reduceSub, Nat.reduceMul, Nat.reduceLT, Nat.reduceLeDiff, Nat.reduceEqDiff, Nat.reduceBEq, Int.reduceLT, Int.reduceLE, Int.reduceToNat, Int.reduceAdd, Int.reduceMul, Int.reduceNeg, Int.reduceSub, UInt64.reduceOfNat, UInt32.reduceOfNat, UInt8.reduceOfNat, UInt64.reduceToNat, UInt32.reduceToNat, UInt8.reduceToNat, Int.reduceEq, Int.reduceNe, Int.reduceTDiv, Int.reduceTMod, Int.reduceBNe, Int.reduceBEq, Nat.reduceBNe, ← fe_prm, length_fe, all_fe, take_fe, splice_fe]
      refine ⟨fun hm => ?_, fun hm => ?_⟩
      · refine Tri.rounds 4 ?_
        rw [awR_succ]
        simp only [push_cast, reduceCtorEq, reduceIte, Nat.reduceAdd, Nat.reduceSub, Nat.reduceMul, Nat.reduceLT, Nat.reduceLeDiff, Nat.reduceEqDiff, Nat.reduceBEq, Int.reduceLT, Int.reduceLE, Int.reduceToNat, Int.reduceAdd, Int.reduceMul, Int.reduceNeg, Int.reduceSub, UInt64.reduceOfNat, UInt32.reduceOfNat, UInt8.reduceOfNat, UInt64.reduceToNat, UInt32.reduceToNat, UInt8.reduceToNat, Int.reduceEq, Int.reduceNe, Int.reduceTDiv, Int.reduceTMod, Int.reduceBNe, Int.reduceBEq, Nat.reduceBNe, ← fe_prm, length_fe, all_fe, take_fe, splice_fe]
        rw [awR_succ]
        simp only [push_cast, reduceCtorEq, reduceIte, Nat.reduceAdd, Nat.reduceSub, Nat.reduceMul, Nat.reduceLT, Nat.reduceLeDiff, Nat.reduceEqDiff, Nat.reduceBEq, Int.reduceLT, Int.reduceLE, Int.reduceToNat, Int.reduceAdd, Int.reduceMul, Int.reduceNeg, Int.reduceSub, UInt64.reduceOfNat, UInt32.reduceOfNat, UInt8.reduceOfNat, UInt64.reduceToNat, UInt32.reduceToNat, UInt8.reduceToNat, Int.reduceEq, Int.reduceNe, Int.reduceTDiv, Int.reduceTMod, Int.reduceBNe, Int.reduceBEq, Nat.reduceBNe, ← fe_prm, length_fe, all_fe, take_fe, splice_fe]
        rw [awR_succ]
        simp only [push_cast, reduceCtorEq, reduceIte, Nat.reduceAdd, Nat.reduceSub, Nat.reduceMul, Nat.reduceLT, Nat.reduceLeDiff, Nat.reduceEqDiff, Nat.reduceBEq, Int.reduceLT, Int.reduceLE, Int.reduceToNat, Int.reduceAdd, Int.reduceMul, Int.reduceNeg, Int.reduceSub, UInt64.reduceOfNat, UInt32.reduceOfNat, UInt8.reduceOfNat, UInt64.reduceToNat, UInt32.reduceToNat, UInt8.reduceToNat, Int.reduceEq, Int.reduceNe, Int.reduceTDiv, Int.reduceTMod, Int.reduceBNe, Int.reduceBEq, Nat.reduceBNe, ← fe_prm, length_fe, all_fe, take_fe, splice_fe]
        rw [awR_succ]
        simp only [push_cast, reduceCtorEq, reduceIte, Nat.reduceAdd, Nat.reduceSub, Nat.reduceMul, Nat.reduceLT, Nat.reduceLeDiff, Nat.reduceEqDiff, Nat.reduceBEq, Int.reduceLT, Int.reduceLE, Int.reduceToNat, Int.reduceAdd, Int.reduceMul, Int.reduceNeg, Int.reduceSub, UInt64.reduceOfNat, UInt32.reduceOfNat, UInt8.reduceOfNat, UInt64.reduceToNat, UInt32.reduceToNat, UInt8.reduceToNat, Int.reduceEq, Int.reduceNe, Int.reduceTDiv, Int.reduceTMod, Int.reduceBNe, Int.reduceBEq, Nat.reduceBNe, ← fe_prm, length_fe, all_fe, take_fe, splice_fe]
        exact plusInv_step hR hk hm rfl ⟨rfl, rfl, rfl, rfl⟩
      · simp only [Tryd.f34, push_cast, reduceCtorEq, reduceIte, Nat.reduceAdd, Nat.reduceSub, Nat.reduceMul, Nat.reduceLT, Nat.reduceLeDiff, Nat.reduceEqDiff, Nat.reduceBEq, Int.reduceLT, Int.reduceLE, Int.reduceToNat, Int.reduceAdd, Int.reduceMul, Int.reduceNeg, Int.reduceSub, UInt64.reduceOfNat, UInt32.reduceOfNat, UInt8.reduceOfNat, UInt64.reduceToNat, UInt32.reduceToNat, UInt8.reduceToNat, Int.reduceEq, Int.reduceNe, Int.reduceTDiv, Int.reduceTMod, Int.reduceBNe, Int.reduceBEq, Nat.reduceBNe, ← fe_prm, length_fe, all_fe, take_fe, splice_fe]
        have m0 : m = 0 := by
          apply UInt64.toNat.inj
          simpa using hm
        subst m0
        rw [splice_all _ _ (by rw [length_fe, length_u64s]; rfl)]
        refine ⟨by rw [length_u64s]; exact Nat.le_refl _, ?_⟩
        rw [← hR, plusN, if_pos (by exact val_lt _ _ _ _), ← fe_val, take_fe]
        rfl
end Go.Proofs.YtfjmpdoidkblcaaDoor
