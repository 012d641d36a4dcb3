import Derived.Test.YtfpladpbnbpehaaGPnsI
set_option linter.unusedSimpArgs false
set_option linter.unusedVariables false
namespace Go.Proofs.Ytfpladpbnbpehaa
open Go Go.V Go.Pin
set_option maxRecDepth 100000
theorem pinStays_c (l : List Raw3) (_hl : l.length ≤ maxLen ∧ ∀ r ∈ l, r.ok) (n : Int) (_hn : -9223372036854775808 ≤ n ∧ n ≤ 9223372036854775807) (k : Int) (_hk : -9223372036854775808 ≤ k ∧ k ≤ 9223372036854775807) :
    HCall Try.E 5 [.vecr false 4 l.length (rawsF l), .int .i64 n, .int .i64 k] (.ret (.bool true) []) := by
  refine HCall.of_walk (R := R1) (T := P6) (fun _ _ => .unroll 3) 6 rfl rfl ?_
  rw [stays_eq]
  dsimp only
  rw [Frm.rawsOf_eq, Frm.isRaws_iff.2 ⟨l, rfl, rfl⟩]
  have hP := pinnedN_ok (l := l) (min l.length 20) (by omega)
  generalize pinnedN l (min l.length 20) = P at *
  have h8 := (faultP_iff.1 hP).1
  have hn := named_ok n
  generalize namedS n = s at *
  generalize keyS (k % 3) = ky at *
  have hle : leB P.length 1000000000 = true := leB_of (by omega)
  rw [findS_eq, trustS_eq, rotateS_eq, faultPS_eq]
  simp only [pins_of, isPns_pcs, hle, hP, Bool.and_self, beq_self_eq_true, cond_true, cond_false, cnd_eq, true_and, ite2_true]
  cases hh : hasP P s with
  | false =>
    have e : findP P s = (pnZ, 5) := by unfold findP; rw [hP, hh]; rfl
    rw [e]
    have e1 : ((5 : Int) != 0) = true := by decide
    simp only [e1, ite2_true, beq_self_eq_true]
    cases h88 : P.length == 8 with
    | true =>
      have e2 : trustP P s ky = ([], 8) := by unfold trustP; rw [hP, hn, hh, h88]; rfl
      have e3 : (((P.length : Nat) : Int) == 8) = true := by have : P.length = 8 := by simpa using h88
                                                             rw [this]; rfl
      rw [e2, e3]
      exact ⟨rfl, (has_refl : (Out.ret (AV.bool true) []).has (AV.bool true) [])⟩
    | false =>
      have hne : P.length ≠ 8 := by simpa using h88
      have e2 : trustP P s ky = (insP P (posP P s) ⟨s, ky, false⟩, 0) := by unfold trustP; rw [hP, hn, hh, h88]; rfl
      have e4 := find_ins hP (k := ky) hn hh hne
      have e5 : ((0 : Int) == 8) = false := by decide
      have hl := length_ins (posP_le P s) (⟨s, ky, false⟩ : Pn)
      rw [e2]
      dsimp only
      rw [e4]
      simp only [e5, ite2_false, ite2_true, beq_self_eq_true, Bool.and_self, Bool.and_true, cond_true]
      exact ⟨leB_of (by omega), (has_refl : (Out.ret (AV.bool true) []).has (AV.bool true) [])⟩
  | true =>
    obtain ⟨hlt, hnm⟩ := hasP_pos hh
    have e : findP P s = (P.getD (posP P s) pn0, 0) := by unfold findP; rw [hP, hh]; rfl
    have e1 : ((0 : Int) != 0) = false := by decide
    obtain ⟨r1, r2⟩ := trust_rot hP (k := ky) hn hh
    have hrl : leB (rotateP P s ky).1.length 1000000000 = true := by
      rcases rotate_fine hP s ky with ⟨_, h⟩ | h | h | h
      · have := (faultP_iff.1 h).1; exact leB_of (by omega)
      all_goals (rw [r1] at h; exact absurd h (by decide))
    rw [e]
    simp only [e1, ite2_false, hrl, r1, r2, beq_self_eq_true, cond_true, true_and, ite2_true, isPns_pcs, pins_of]
    have e13 : ((13 : Int) == 13) = true := by decide
    have e130 : ((13 : Int) == 0) = false := by decide
    have et : trustP P s ky = bif (P.getD (posP P s) pn0).gone || !((P.getD (posP P s) pn0).key == ky) then ([], 13) else (P, 0) := by unfold trustP; rw [hP, hn, hh]; rfl
    cases hg : (P.getD (posP P s) pn0).gone with
    | true =>
      rw [hg] at et
      rw [show trustP P s ky = ([], 13) from et]
      exact ⟨rfl, (has_refl : (Out.ret (AV.bool true) []).has (AV.bool true) [])⟩
    | false =>
      rw [hg] at et
      cases hk : (P.getD (posP P s) pn0).key == ky with
      | true =>
        rw [hk] at et
        rw [show trustP P s ky = (P, 0) from et]
        exact ⟨rfl, (has_refl : (Out.ret (AV.bool true) []).has (AV.bool true) [])⟩
      | false =>
        rw [hk] at et
        rw [show trustP P s ky = ([], 13) from et]
        exact ⟨rfl, (has_refl : (Out.ret (AV.bool true) []).has (AV.bool true) [])⟩
end Go.Proofs.Ytfpladpbnbpehaa
