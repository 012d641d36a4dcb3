/- A number brought below another one, as the laws do it. -/
import Derived.Test.YthoddhfiiilibaaV1

set_option linter.unusedSimpArgs false
set_option linter.unusedVariables false
namespace Go.V
open Go
theorem pick_val {n m : Int} (hm : 0 < m) : (if n.tmod m < 0 then n.tmod m + m else n.tmod m) = n % m := by
  rcases Int.lt_or_le n 0 with h | h
  · have h1 := Int.neg_tmod (a := -n) (b := m)
    rw [Int.neg_neg, Int.tmod_eq_emod_of_nonneg (a := -n) (by omega)] at h1
    have h3 := Int.emod_nonneg (-n) (show m ≠ 0 by omega)
    have h4 := Int.emod_lt_of_pos (-n) hm
    have h5 := Int.neg_emod (a := n) (b := m)
    have h6 := Int.emod_nonneg n (show m ≠ 0 by omega)
    have h7 := Int.emod_lt_of_pos n hm
    rw [h1]
    have e1 : m * (n / m) + n % m = n := Int.mul_ediv_add_emod n m
    have e2 : m * (-n / m) + -n % m = -n := Int.mul_ediv_add_emod (-n) m
    have e3 : m * (n / m + -n / m) + (n % m + -n % m) = 0 := by rw [Int.mul_add]; omega
    generalize n / m + -n / m = q at e3
    have hq : q = 0 ∨ q = -1 := by
      rcases Int.lt_or_le q (-1) with hq | hq
      · have := Int.mul_le_mul_of_nonneg_left (show q ≤ -2 by omega) (show 0 ≤ m by omega)
        omega
      · rcases Int.lt_or_le 0 q with hq' | hq'
        · have := Int.mul_le_mul_of_nonneg_left (show 1 ≤ q by omega) (show 0 ≤ m by omega)
          omega
        · omega
    rcases hq with rfl | rfl
    · rw [Int.mul_zero] at e3; split <;> omega
    · split <;> omega
  · rw [Int.tmod_eq_emod_of_nonneg h]
    have := Int.emod_nonneg n (show m ≠ 0 by omega)
    rw [if_neg (by omega)]
theorem wrapI {n : Int} (h : -9223372036854775808 ≤ n) (h2 : n ≤ 9223372036854775807) : IntKind.i64.wrap n = n := by
  have := IntKind.wrap_i64 n
  rw [this]; omega
theorem getD_take {α : Type} {l : List α} {i n : Nat} {d : α} (h : i < n) : (l.take n).getD i d = l.getD i d := by
  simp [List.getD_eq_getElem?_getD, List.getElem?_take, h]
end Go.V
