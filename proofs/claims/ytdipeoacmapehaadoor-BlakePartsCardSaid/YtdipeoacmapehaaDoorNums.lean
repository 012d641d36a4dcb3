/- ChaCha20's block and stream, as functions of lists. -/
import Derived.Test.YtdipeoacmapehaaDoorV1

set_option linter.unusedSimpArgs false
set_option linter.unusedVariables false
namespace Go.Cha
open Go Go.V

def rotS (x : UInt32) (n m : Nat) : UInt32 := shl32 x n ||| shr32 x m
def turnS (a b d n m : Nat) (l : List UInt32) : List UInt32 :=
  (l.set a (l.getD a 0 + l.getD b 0)).set d (rotS ((l.set a (l.getD a 0 + l.getD b 0)).getD d 0 ^^^ (l.set a (l.getD a 0 + l.getD b 0)).getD a 0) n m)
def quarterS (a b c d : Nat) (l : List UInt32) : List UInt32 := turnS c d b 7 25 (turnS a b d 8 24 (turnS c d b 12 20 (turnS a b d 16 16 l)))
def droundS (l : List UInt32) : List UInt32 :=
  quarterS 3 4 9 14 (quarterS 2 7 8 13 (quarterS 1 6 11 12 (quarterS 0 5 10 15 (quarterS 3 7 11 15 (quarterS 2 6 10 14 (quarterS 1 5 9 13 (quarterS 0 4 8 12 l)))))))
def roundsS (w : List UInt32) : Nat → List UInt32
  | 0 => w
  | n + 1 => droundS (roundsS w n)
def wordS (b : List UInt8) (i : Nat) : UInt32 := (((b.getD i 0).toUInt32 ||| shl32 (b.getD (i + 1) 0).toUInt32 8) ||| shl32 (b.getD (i + 2) 0).toUInt32 16) ||| shl32 (b.getD (i + 3) 0).toUInt32 24
def startS (key : List UInt8) (c : UInt32) (nonce : List UInt8) : List UInt32 :=
  [0x61707865, 0x3320646e, 0x79622d32, 0x6b206574, wordS key 0, wordS key 4, wordS key 8, wordS key 12, wordS key 16, wordS key 20, wordS key 24, wordS key 28, c, wordS nonce 0, wordS nonce 4, wordS nonce 8]
def outS (w f : List UInt32) : List UInt8 := (List.range 16).flatMap fun i => (List.range 4).map fun k => (shr32 (w.getD i 0 + f.getD i 0) (8 * k)).toUInt8
def blockF (key : List UInt8) (c : UInt32) (nonce : List UInt8) : List UInt8 := outS (roundsS (startS key c nonce) 10) (startS key c nonce)
noncomputable def blockS : List UInt8 → UInt32 → List UInt8 → List UInt8 := (sealed blockF).val
theorem blockS_eq (key : List UInt8) (c : UInt32) (nonce : List UInt8) : blockS key c nonce = blockF key c nonce := by rw [blockS, (sealed blockF).property]
theorem length_blockS (key : List UInt8) (c : UInt32) (nonce : List UInt8) : (blockS key c nonce).length = 64 := by rw [blockS_eq]; rfl
end Go.Cha

/- A number brought below another one, as the laws do it. -/
set_option linter.unusedSimpArgs false
set_option linter.unusedVariables false
namespace Go.V
open Go
theorem pick_val {n m : Int} (hm : 0 < m) : (if n.tmod m < 0 then n.tmod m + m else n.tmod m) = n % m := by
  rcases Int.lt_or_le n 0 with h | h
  · have h1 := Int.neg_tmod (a := -n) (b := m)
    rw [Int.neg_neg, Int.tmod_eq_emod_of_nonneg (a := -n) (by omega)] at h1
    have h3 := Int.emod_nonneg (-n) (show m ≠ 0 by omega)
    have h4 := Int.emod_lt_of_pos (-n) hm
    have h5 := Int.neg_emod (a := n) (b := m)
    have h6 := Int.emod_nonneg n (show m ≠ 0 by omega)
    have h7 := Int.emod_lt_of_pos n hm
    rw [h1]
    have e1 : m * (n / m) + n % m = n := Int.mul_ediv_add_emod n m
    have e2 : m * (-n / m) + -n % m = -n := Int.mul_ediv_add_emod (-n) m
    have e3 : m * (n / m + -n / m) + (n % m + -n % m) = 0 := by rw [Int.mul_add]; omega
    generalize n / m + -n / m = q at e3
    have hq : q = 0 ∨ q = -1 := by
      rcases Int.lt_or_le q (-1) with hq | hq
      · have := Int.mul_le_mul_of_nonneg_left (show q ≤ -2 by omega) (show 0 ≤ m by omega)
        omega
      · rcases Int.lt_or_le 0 q with hq' | hq'
        · have := Int.mul_le_mul_of_nonneg_left (show 1 ≤ q by omega) (show 0 ≤ m by omega)
          omega
        · omega
    rcases hq with rfl | rfl
    · rw [Int.mul_zero] at e3; split <;> omega
    · split <;> omega
  · rw [Int.tmod_eq_emod_of_nonneg h]
    have := Int.emod_nonneg n (show m ≠ 0 by omega)
    rw [if_neg (by omega)]
theorem wrapI {n : Int} (h : -9223372036854775808 ≤ n) (h2 : n ≤ 9223372036854775807) : IntKind.i64.wrap n = n := by
  have := IntKind.wrap_i64 n
  rw [this]; omega
theorem getD_take {α : Type} {l : List α} {i n : Nat} {d : α} (h : i < n) : (l.take n).getD i d = l.getD i d := by
  simp [List.getD_eq_getElem?_getD, List.getElem?_take, h]
end Go.V

/- Integers that stay within their bounds. -/
set_option linter.unusedSimpArgs false
set_option linter.unusedVariables false
namespace Go.V
open Go
theorem wr_of {z : Int} (h : -9223372036854775808 ≤ z) (h2 : z ≤ 9223372036854775807) : wr .i64 z = z := by rw [wr_eq, wrapI h h2]
theorem ltI_of {x y : Int} (h : x < y) : ltI x y = true := by rw [ltI_eq, decide_eq_true h]
theorem ltI_no {x y : Int} (h : y ≤ x) : ltI x y = false := by rw [ltI_eq, decide_eq_false (by omega)]
theorem of_ltI {x y : Int} (h : ltI x y = true) : x < y := (ltI_iff x y).1 h
theorem of_ltI_no {x y : Int} (h : ltI x y = false) : y ≤ x := by
  rcases Int.lt_or_le x y with h1 | h1
  · rw [ltI_of h1] at h; exact Bool.noConfusion h
  · exact h1
theorem of_ltB {a b : Nat} (h : ltB a b = true) : a < b := ltB_iff.1 h
theorem of_ltB_no {a b : Nat} (h : ltB a b = false) : b ≤ a := by
  rcases Nat.lt_or_ge a b with h1 | h1
  · rw [ltB_of h1] at h; exact Bool.noConfusion h
  · exact h1
theorem ltB_no {a b : Nat} (h : b ≤ a) : ltB a b = false := by
  cases e : ltB a b
  · rfl
  · have := of_ltB e; omega
theorem leB_no {a b : Nat} (h : b < a) : leB a b = false := by
  cases e : leB a b
  · rfl
  · have := leB_iff.1 e; omega
theorem of_leB_no {a b : Nat} (h : leB a b = false) : b < a := by
  rcases Nat.lt_or_ge b a with h1 | h1
  · exact h1
  · rw [leB_of h1] at h; exact Bool.noConfusion h
theorem ofs0 (n : Nat) : ofs 0 (n : Int) = n := rfl
end Go.V
