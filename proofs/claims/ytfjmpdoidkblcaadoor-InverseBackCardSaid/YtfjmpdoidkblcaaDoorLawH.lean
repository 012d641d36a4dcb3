import Derived.Test.YtfjmpdoidkblcaaDoorLawG
set_option linter.unusedSimpArgs false
set_option linter.unusedVariables false
namespace Go.Proofs.YtfjmpdoidkblcaaDoor
open Go Go.V Go.Fld
set_option maxRecDepth 100000

theorem fes_zero : ([0, 0, 0, 0] : List UInt64) = fes 0 := by rw [fes_eq]; rfl
theorem fes_one : (List.set (fes 0) 0 1) = fes 1 := by rw [← fes_zero, fes_eq]; rfl

theorem inverseBack_c (x y : List UInt8) : HCall Tryd.E 6 [.b8 32 x, .b8 32 y] (.ret (.bool true) []) := by
  refine HCall.of_walk (R := RR) (T := T6) (fun _ _ => .unroll 6) 5 rfl rfl ?_
  rw [inverse_eq]
  obtain ⟨k, hp2, hk0, hk1⟩ : ∃ k, (57896044618658097711785492504343953926634992332820282019728792003956564819947 : Nat) = k ∧ 0 < k ∧ k + 1 = prm - 1 :=
    ⟨57896044618658097711785492504343953926634992332820282019728792003956564819947, rfl, by omega, by rw [← hprm]⟩
  have hx := fromN_lt x
  have hy := fromN_lt y
  have hx' := fromN_top x
  have hy' := fromN_top y
  have h0 : (0 : Nat) < top := by decide
  have h1 : (1 : Nat) < top := by decide
  simp only [hprm, hp2, nv_from, nv_mod, ltN_mod, ltN_from, Bool.and_self, cnd_true, cond_true, fes_zero, fes_one, fes_beq hx' h0, fes_beq hy' h0, fes_beq (mod_top _) h0, fes_beq (mod_top _) h1]
  generalize fromN x = a at *
  generalize fromN y = b at *
  by_cases ha : a = 0
  · subst ha
    have e : (0 : Nat) ^ k % prm = 0 := by rw [Nat.zero_pow hk0, Nat.zero_mod]
    simp only [e, Nat.zero_mul, Nat.zero_mod, decide_true, ite2]
    exact ⟨rfl, rfl⟩
  · have hna : ¬ prm ∣ a := fun h => by have := Nat.le_of_dvd (by omega) h; omega
    have hf : (a * (a ^ k % prm)) % prm = 1 := by
      rw [Nat.mul_mod_mod, Nat.mul_comm, ← Nat.pow_succ, Nat.succ_eq_add_one, hk1]
      exact Go.Num.fermat1 prm_pr hna
    have hz : (a * b % prm = 0) ↔ b = 0 := by
      constructor
      · intro h
        rcases prm_pr.dvd_mul (Nat.dvd_of_mod_eq_zero h) with h | h
        · exact absurd h hna
        · rcases Nat.eq_zero_or_pos b with h0 | h0
          · exact h0
          · have := Nat.le_of_dvd h0 h; omega
      · rintro rfl; simp
    simp only [ha, hf, decide_false, decide_true, ite2, hz, beq_self_eq_true, cond_true, cond_false]
    exact ⟨rfl, rfl⟩
end Go.Proofs.YtfjmpdoidkblcaaDoor
