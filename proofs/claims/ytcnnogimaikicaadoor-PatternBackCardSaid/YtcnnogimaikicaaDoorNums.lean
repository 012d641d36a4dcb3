/- A number brought below another one, as the laws do it. -/
import Derived.Test.YtcnnogimaikicaaDoorV1

set_option linter.unusedSimpArgs false
set_option linter.unusedVariables false
namespace Go.V
open Go
theorem pick_val {n m : Int} (hm : 0 < m) : (if n.tmod m < 0 then n.tmod m + m else n.tmod m) = n % m := by
  rcases Int.lt_or_le n 0 with h | h
  · have h1 := Int.neg_tmod (a := -n) (b := m)
    rw [Int.neg_neg, Int.tmod_eq_emod_of_nonneg (a := -n) (by omega)] at h1
    have h3 := Int.emod_nonneg (-n) (show m ≠ 0 by omega)
    have h4 := Int.emod_lt_of_pos (-n) hm
    have h5 := Int.neg_emod (a := n) (b := m)
    have h6 := Int.emod_nonneg n (show m ≠ 0 by omega)
    have h7 := Int.emod_lt_of_pos n hm
    rw [h1]
    have e1 : m * (n / m) + n % m = n := Int.mul_ediv_add_emod n m
    have e2 : m * (-n / m) + -n % m = -n := Int.mul_ediv_add_emod (-n) m
    have e3 : m * (n / m + -n / m) + (n % m + -n % m) = 0 := by rw [Int.mul_add]; omega
    generalize n / m + -n / m = q at e3
    have hq : q = 0 ∨ q = -1 := by
      rcases Int.lt_or_le q (-1) with hq | hq
      · have := Int.mul_le_mul_of_nonneg_left (show q ≤ -2 by omega) (show 0 ≤ m by omega)
        omega
      · rcases Int.lt_or_le 0 q with hq' | hq'
        · have := Int.mul_le_mul_of_nonneg_left (show 1 ≤ q by omega) (show 0 ≤ m by omega)
          omega
        · omega
    rcases hq with rfl | rfl
    · rw [Int.mul_zero] at e3; split <;> omega
    · split <;> omega
  · rw [Int.tmod_eq_emod_of_nonneg h]
    have := Int.emod_nonneg n (show m ≠ 0 by omega)
    rw [if_neg (by omega)]
theorem wrapI {n : Int} (h : -9223372036854775808 ≤ n) (h2 : n ≤ 9223372036854775807) : IntKind.i64.wrap n = n := by
  have := IntKind.wrap_i64 n
  rw [this]; omega
theorem getD_take {α : Type} {l : List α} {i n : Nat} {d : α} (h : i < n) : (l.take n).getD i d = l.getD i d := by
  simp [List.getD_eq_getElem?_getD, List.getElem?_take, h]
end Go.V

/- Integers that stay within their bounds. -/
set_option linter.unusedSimpArgs false
set_option linter.unusedVariables false
namespace Go.V
open Go
theorem wr_of {z : Int} (h : -9223372036854775808 ≤ z) (h2 : z ≤ 9223372036854775807) : wr .i64 z = z := by rw [wr_eq, wrapI h h2]
theorem ltI_of {x y : Int} (h : x < y) : ltI x y = true := by rw [ltI_eq, decide_eq_true h]
theorem ltI_no {x y : Int} (h : y ≤ x) : ltI x y = false := by rw [ltI_eq, decide_eq_false (by omega)]
theorem of_ltI {x y : Int} (h : ltI x y = true) : x < y := (ltI_iff x y).1 h
theorem of_ltI_no {x y : Int} (h : ltI x y = false) : y ≤ x := by
  rcases Int.lt_or_le x y with h1 | h1
  · rw [ltI_of h1] at h; exact Bool.noConfusion h
  · exact h1
theorem of_ltB {a b : Nat} (h : ltB a b = true) : a < b := ltB_iff.1 h
theorem of_ltB_no {a b : Nat} (h : ltB a b = false) : b ≤ a := by
  rcases Nat.lt_or_ge a b with h1 | h1
  · rw [ltB_of h1] at h; exact Bool.noConfusion h
  · exact h1
theorem ltB_no {a b : Nat} (h : b ≤ a) : ltB a b = false := by
  cases e : ltB a b
  · rfl
  · have := of_ltB e; omega
theorem leB_no {a b : Nat} (h : b < a) : leB a b = false := by
  cases e : leB a b
  · rfl
  · have := leB_iff.1 e; omega
theorem of_leB_no {a b : Nat} (h : leB a b = false) : b < a := by
  rcases Nat.lt_or_ge b a with h1 | h1
  · exact h1
  · rw [leB_of h1] at h; exact Bool.noConfusion h
theorem ofs0 (n : Nat) : ofs 0 (n : Int) = n := rfl
end Go.V
