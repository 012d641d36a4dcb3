import Derived.Test.YtfpladpbnbpehaaGPnsG
import Derived.Test.YtfpladpbnbpehaaPinM
set_option linter.unusedSimpArgs false
set_option linter.unusedVariables false
namespace Go.Proofs.Ytfpladpbnbpehaa
open Go Go.V Go.Pin
set_option maxRecDepth 100000
set_option maxHeartbeats 2000000
theorem rawsOk (l : List Raw3) (n : Nat) : ∀ x, x < n → leR (rawsF l x) (rawsF l x) := fun x _ => leR.refl rfl
theorem r00 : ((0 : Int) == 0) = true := by decide
theorem r05 : ((0 : Int) == 5) = false := by decide
theorem r08 : ((0 : Int) == 8) = false := by decide
theorem r013 : ((0 : Int) == 13) = false := by decide
theorem r130 : ((13 : Int) == 0) = false := by decide
theorem r1313 : ((13 : Int) == 13) = true := by decide
theorem r50 : ((5 : Int) == 0) = false := by decide
theorem r513 : ((5 : Int) == 13) = false := by decide
theorem r55 : ((5 : Int) == 5) = true := by decide
theorem r80 : ((8 : Int) == 0) = false := by decide
theorem r813 : ((8 : Int) == 13) = false := by decide
theorem r85 : ((8 : Int) == 5) = false := by decide
theorem r88 : ((8 : Int) == 8) = true := by decide
/-- Pins of raw things: some that may be. -/
noncomputable def pinnedK (l : List Raw3) (v : AV) (H : Heap) : Prop := H = [] ∧ v = .tup [.vecr false 34 (pinnedN l (min l.length 20)).length (pcs (pinnedN l (min l.length 20))), .bool true]
theorem spinned_w (l : List Raw3) : walk Try.E R1 P5.C (fun _ _ => pinnedL l) 5 15 [.vecr false 4 l.length (rawsF l)] (pinnedK l) := by
  rw [spinned_eq]
  dsimp only
  have raws := rawsOk l (min l.length (Int.toNat 20))
  refine ⟨⟨(0, []), ⟨by rw [Inv.upTo_int]; show (0 : Int) ≤ _; omega, fault_nil, rfl⟩, ?_⟩, fun w hw => ?_⟩
  · repeat' apply And.intro
    all_goals first | rfl | trivial | exact raws | exact fun x h => absurd h (by simp)
  obtain ⟨i, P⟩ := w
  obtain ⟨hi, h0, hPN⟩ := hw
  dsimp only at hi h0 hPN ⊢
  rw [Inv.upTo_int] at hi
  have hP : P.length ≤ 8 := (faultP_iff.1 h0).1
  rcases Nat.lt_or_ge i (min l.length 20) with hlt | hge
  case inr =>
    rw [ltI_no (by omega), ite2_false]
    obtain rfl : i = min l.length 20 := by omega
    unfold pinnedK
    rw [← hPN]
    exact ⟨rfl, rfl⟩
  have hw2 : wr .i64 ((i : Int) + 1) = ((i + 1 : Nat) : Int) := by rw [wr_of (by omega) (by omega)]; rfl
  have hle : leB P.length 1000000000 = true := leB_of (by omega)
  have hin : inB ((i : Nat) : Int) (min l.length 20) = true := inB_of (by omega) (by omega)
  have nxt : ∀ M : List Pn, faultP M = 0 → stepS P (l.getD i raw0) = M → Inv.up (i + 1) < Inv.up i ∧ Inv.upTo [AV.int .i64 ((min l.length 20 : Nat) : Int)] (i + 1) ∧ faultP M = 0 ∧ M = pinnedN l (i + 1) := fun M hM hs =>
    ⟨Inv.up_lt (by omega), by rw [Inv.upTo_int]; omega, hM, by rw [pinnedN_succ (by omega), ← hPN, hs]⟩
  have hst : stepS P (l.getD i raw0) = stepS P (l.getD i raw0) := rfl
  conv at hst => rhs; unfold stepS
  rw [ltI_of (by omega), ite2_true]
  simp only [hw2, hle, hin, pins_of, isPns_pcs, Int.toNat_natCast, Bool.and_self, cnd_eq, true_and]
  have hn := named_ok (l.getD i raw0).a
  refine ite2_iff.2 ⟨fun hk => ?_, fun hk => ?_⟩
  · rw [hk, cond_true] at hst
    have hf := rotate_fine h0 (namedS (l.getD i raw0).a) (keyS ((l.getD i raw0).b % 3))
    rw [← rotateS_eq] at hf
    generalize rotateS P (namedS (l.getD i raw0).a) (keyS ((l.getD i raw0).b % 3)) = r at hf hst ⊢
    obtain ⟨M, e⟩ := r
    rcases hf with ⟨he, hM⟩ | he | he | he
    · dsimp only at he hM
      subst he
      simp only [r00, r05, r08, r013, ite2_true, ite2_false, cond_true, cond_false, cnd_eq, true_and, Bool.and_self, beq_self_eq_true]
      refine ⟨(i + 1, M), nxt M hM hst, ?_⟩
      repeat' apply And.intro
      all_goals first | rfl | trivial | exact raws | exact fun x _ => pcs_ok M x
    all_goals
      dsimp only at he
      subst he
      simp only [r130, r1313, r50, r513, r55, r80, r813, r85, r88, ite2_true, ite2_false, cond_true, cond_false, cnd_eq, true_and, Bool.and_self, beq_self_eq_true]
      refine ⟨(i + 1, P), nxt P h0 hst, ?_⟩
      repeat' apply And.intro
      all_goals first | rfl | trivial | exact raws | exact fun x _ => pcs_ok P x
  rw [hk, cond_false] at hst
  refine ite2_iff.2 ⟨fun hk => ?_, fun hk => ?_⟩
  · rw [hk, cond_true] at hst
    have hf := revoke_fine h0 (namedS (l.getD i raw0).a)
    rw [← revokeS_eq] at hf
    generalize revokeS P (namedS (l.getD i raw0).a) = r at hf hst ⊢
    obtain ⟨M, e⟩ := r
    rcases hf with ⟨he, hM⟩ | he | he | he
    · dsimp only at he hM
      subst he
      simp only [r00, r05, r08, r013, ite2_true, ite2_false, cond_true, cond_false, cnd_eq, true_and, Bool.and_self, beq_self_eq_true]
      refine ⟨(i + 1, M), nxt M hM hst, ?_⟩
      repeat' apply And.intro
      all_goals first | rfl | trivial | exact raws | exact fun x _ => pcs_ok M x
    all_goals
      dsimp only at he
      subst he
      simp only [r130, r1313, r50, r513, r55, r80, r813, r85, r88, ite2_true, ite2_false, cond_true, cond_false, cnd_eq, true_and, Bool.and_self, beq_self_eq_true]
      refine ⟨(i + 1, P), nxt P h0 hst, ?_⟩
      repeat' apply And.intro
      all_goals first | rfl | trivial | exact raws | exact fun x _ => pcs_ok P x
  rw [hk, cond_false] at hst
  refine ite2_iff.2 ⟨fun hk => ?_, fun hk => ?_⟩
  · rw [hk, cond_true] at hst
    have hf := forget_fine h0 (namedS (l.getD i raw0).a)
    rw [← forgetS_eq] at hf
    generalize forgetS P (namedS (l.getD i raw0).a) = r at hf hst ⊢
    obtain ⟨M, e⟩ := r
    rcases hf with ⟨he, hM⟩ | he | he | he
    · dsimp only at he hM
      subst he
      simp only [r00, r05, r08, r013, ite2_true, ite2_false, cond_true, cond_false, cnd_eq, true_and, Bool.and_self, beq_self_eq_true]
      refine ⟨(i + 1, M), nxt M hM hst, ?_⟩
      repeat' apply And.intro
      all_goals first | rfl | trivial | exact raws | exact fun x _ => pcs_ok M x
    all_goals
      dsimp only at he
      subst he
      simp only [r130, r1313, r50, r513, r55, r80, r813, r85, r88, ite2_true, ite2_false, cond_true, cond_false, cnd_eq, true_and, Bool.and_self, beq_self_eq_true]
      refine ⟨(i + 1, P), nxt P h0 hst, ?_⟩
      repeat' apply And.intro
      all_goals first | rfl | trivial | exact raws | exact fun x _ => pcs_ok P x
  · rw [hk, cond_false] at hst
    have hf := trust_fine h0 (k := (keyS ((l.getD i raw0).b % 3))) hn
    rw [← trustS_eq] at hf
    generalize trustS P (namedS (l.getD i raw0).a) (keyS ((l.getD i raw0).b % 3)) = r at hf hst ⊢
    obtain ⟨M, e⟩ := r
    rcases hf with ⟨he, hM⟩ | he | he | he
    · dsimp only at he hM
      subst he
      simp only [r00, r05, r08, r013, ite2_true, ite2_false, cond_true, cond_false, cnd_eq, true_and, Bool.and_self, beq_self_eq_true]
      refine ⟨(i + 1, M), nxt M hM hst, ?_⟩
      repeat' apply And.intro
      all_goals first | rfl | trivial | exact raws | exact fun x _ => pcs_ok M x
    all_goals
      dsimp only at he
      subst he
      simp only [r130, r1313, r50, r513, r55, r80, r813, r85, r88, ite2_true, ite2_false, cond_true, cond_false, cnd_eq, true_and, Bool.and_self, beq_self_eq_true]
      refine ⟨(i + 1, P), nxt P h0 hst, ?_⟩
      repeat' apply And.intro
      all_goals first | rfl | trivial | exact raws | exact fun x _ => pcs_ok P x
theorem pinnedN_ok {l : List Raw3} : ∀ i, i ≤ l.length → faultP (pinnedN l i) = 0
  | 0, _ => fault_nil
  | i + 1, h => by
    have ih := pinnedN_ok i (by omega : i ≤ l.length)
    rw [pinnedN_succ (by omega)]
    have key : ∀ r, Fine r → faultP (sel (pinnedN l i) r) = 0 := fun r hr => by
      unfold sel
      rcases hr with ⟨h1, h2⟩ | h1 | h1 | h1 <;> rw [h1]
      · exact h2
      all_goals exact ih
    unfold stepS
    rw [rotateS_eq, revokeS_eq, forgetS_eq, trustS_eq]
    cases (l.getD i raw0).kind % 6 == 0 with
    | true => exact key _ (rotate_fine ih _ _)
    | false => cases (l.getD i raw0).kind % 6 == 1 with
      | true => exact key _ (revoke_fine ih _)
      | false => cases (l.getD i raw0).kind % 6 == 2 with
        | true => exact key _ (forget_fine ih _)
        | false => exact key _ (trust_fine ih (named_ok _))
theorem spinned_c (l : List Raw3) : HCall Try.E 15 [.vecr false 4 l.length (rawsF l)] (.ret (.tup [.vecr false 34 (pinnedN l (min l.length 20)).length (pcs (pinnedN l (min l.length 20))), .bool true]) []) := by
  refine ⟨rfl, rfl, fun ρ I w vs c r => (ACall.of_walk (spinned_w l) ρ I w vs c r).mono ?_⟩
  rintro e w' ⟨x, rfl, ρ', I', v, H', gd, c', hr, rfl, rfl⟩
  exact ⟨x, rfl, ρ', I', _, [], gd, c', hr, rfl, rfl⟩
end Go.Proofs.Ytfpladpbnbpehaa
