import Derived.Test.YtcnnogimaikicaaDoorTrdA
import Derived.Test.YtcnnogimaikicaaDoorUpicked
set_option linter.unusedSimpArgs false
set_option linter.unusedVariables false
namespace Go.Proofs.YtcnnogimaikicaaDoor
open Go Go.V
/-- A number below so many, told case by case. -/
def altN (x : Int) : Nat → Int → Out
  | 0, k => .ret (.int .i64 k) []
  | 1, k => .ret (.int .i64 k) []
  | n + 2, k => .alt (x == k) (.ret (.int .i64 k) []) (altN x (n + 1) (k + 1))
theorem altN_has (x : Int) : ∀ (n : Nat) (k : Int), k ≤ x → x < k + n → (altN x n k).has (.int .i64 x) []
  | 0, k, h1, h2 => by omega
  | 1, k, h1, h2 => by
    obtain rfl : x = k := by omega
    exact ⟨rfl, rfl⟩
  | n + 2, k, h1, h2 => by
    rw [altN]
    cases hb : x == k with
    | true =>
      have : x = k := by simpa using hb
      subst this
      exact ⟨rfl, rfl⟩
    | false =>
      have : x ≠ k := by simpa using hb
      exact altN_has x (n + 1) (k + 1) (by omega) (by omega)
theorem altN_ok (x : Int) : ∀ (n : Nat) (k : Int), (altN x n k).okB = true
  | 0, k => rfl
  | 1, k => rfl
  | n + 2, k => by rw [altN, Out.okB, altN_ok x (n + 1) (k + 1)]; rfl
theorem pick_alt (n m : Int) (h1 : 0 < m) (h2 : m ≤ 64) : HCall Tryd.E 8 [.int .i64 n, .int .i64 m] (altN (n % m) m.toNat 0) := by
  obtain ⟨hp, _, hc⟩ := upicked_c n m h1 (by omega)
  refine ⟨hp, altN_ok _ _ _, fun ρ I w vs c r => (hc ρ I w vs c r).mono ?_⟩
  rintro e w' ⟨x, rfl, ρ', I', v, H', g, c', hr, hh⟩
  obtain ⟨rfl, rfl⟩ := hh
  refine ⟨x, rfl, ρ', I', _, _, g, c', hr, altN_has _ _ _ (Int.emod_nonneg n (by omega)) ?_⟩
  have := Int.emod_lt_of_pos n h1
  omega
noncomputable def D0 : Ctr Tryd.E := (Ctr.nil Tryd.E).add 8 (fun
    | [.int .i64 n, .int .i64 m] => some (decide (0 < m) && decide (m ≤ 64), altN (n % m) m.toNat 0)
    | _ => none) (by
      intro args pre out h hp
      split at h
      · simp only [Option.some.injEq, Prod.mk.injEq] at h
        obtain ⟨rfl, rfl⟩ := h
        simp only [Bool.and_eq_true, decide_eq_true_eq] at hp
        exact pick_alt _ _ hp.1 hp.2
      · simp at h)
end Go.Proofs.YtcnnogimaikicaaDoor
