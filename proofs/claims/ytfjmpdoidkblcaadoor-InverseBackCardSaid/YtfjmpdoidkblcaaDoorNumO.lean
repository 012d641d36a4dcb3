/- Bytes and numbers: the least byte comes first. -/
import Derived.Test.YtfjmpdoidkblcaaDoorNumN
set_option linter.unusedSimpArgs false
set_option linter.unusedVariables false
namespace Go.Fld
open Go Go.V

def orB (x : UInt64) (c : UInt8) (n : Nat) : UInt64 := x ||| shl64 c.toUInt64 n
theorem orB_fold (x : UInt64) (c : UInt8) (n : Nat) : x ||| shl64 c.toUInt64 n = orB x c n := rfl
theorem lt8 (c : UInt8) : c.toNat < 256 := c.toNat_lt
theorem orB_val (x : UInt64) (c : UInt8) (n : Nat) (hn : n ≤ 56) (hx : x.toNat < 2 ^ n) : (orB x c n).toNat = x.toNat + c.toNat * 2 ^ n ∧ (orB x c n).toNat < 2 ^ (n + 8) := by
  have hc := lt8 c
  have h1 : (shl64 c.toUInt64 n).toNat = 2 ^ n * c.toNat := by
    unfold shl64
    rw [toNat_of, UInt8.toNat_toUInt64, Nat.mod_eq_of_lt, Nat.mul_comm]
    calc c.toNat * 2 ^ n ≤ 255 * 2 ^ 56 := Nat.mul_le_mul (by omega) (Nat.pow_le_pow_right (by decide) hn)
      _ < 18446744073709551616 := by decide
  have h2 : (orB x c n).toNat = x.toNat + c.toNat * 2 ^ n := by
    unfold orB
    rw [UInt64.toNat_or, h1, Nat.or_comm, ← Nat.two_pow_add_eq_or_of_lt hx, Nat.mul_comm, Nat.add_comm]
  refine ⟨h2, ?_⟩
  rw [h2, Nat.pow_add]
  have : c.toNat * 2 ^ n ≤ 255 * 2 ^ n := Nat.mul_le_mul (by omega) (Nat.le_refl _)
  omega

theorem limb8 (c0 c1 c2 c3 c4 c5 c6 c7 : UInt8) : (orB (orB (orB (orB (orB (orB (orB (orB 0 c0 0) c1 8) c2 16) c3 24) c4 32) c5 40) c6 48) c7 56).toNat =
    c0.toNat + 256 * c1.toNat + 65536 * c2.toNat + 16777216 * c3.toNat + 4294967296 * c4.toNat + 1099511627776 * c5.toNat + 281474976710656 * c6.toNat + 72057594037927936 * c7.toNat := by
  have p0 := orB_val 0 c0 0 (by decide) (by decide)
  have p1 := orB_val _ c1 8 (by decide) p0.2
  have p2 := orB_val _ c2 16 (by decide) p1.2
  have p3 := orB_val _ c3 24 (by decide) p2.2
  have p4 := orB_val _ c4 32 (by decide) p3.2
  have p5 := orB_val _ c5 40 (by decide) p4.2
  have p6 := orB_val _ c6 48 (by decide) p5.2
  have p7 := orB_val _ c7 56 (by decide) p6.2
  rw [p7.1, p6.1, p5.1, p4.1, p3.1, p2.1, p1.1, p0.1]
  rw [show (0 : UInt64).toNat = 0 from rfl]
  omega

def leB : List UInt8 → Nat
  | [] => 0
  | c :: l => c.toNat + 256 * leB l

theorem mask63 (x : UInt64) : (x &&& 9223372036854775807).toNat = x.toNat % 9223372036854775808 := by
  rw [UInt64.toNat_and]
  exact Nat.and_two_pow_sub_one_eq_mod _ 63

def etaB : Nat → Nat → List UInt8 → List UInt8
  | 0, _, _ => []
  | n + 1, i, t => t.getD i 0 :: etaB n (i + 1) t
theorem etaB_drop : ∀ (n i : Nat) (t : List UInt8), t.length = i + n → t.drop i = etaB n i t
  | 0, i, t, h => by rw [etaB, List.drop_eq_nil_of_le (by omega)]
  | n + 1, i, t, h => by
    rw [etaB, ← etaB_drop n (i + 1) t (by omega), List.drop_eq_getElem_cons (by omega)]
    simp [List.getD, show i < t.length by omega]
theorem eta_b {t : List UInt8} {n : Nat} (h : t.length = n) : t = etaB n 0 t := by
  have := etaB_drop n 0 t (by omega)
  simpa using this

def sum8 (c0 c1 c2 c3 c4 c5 c6 c7 : UInt8) : Nat := c0.toNat + 256 * c1.toNat + 65536 * c2.toNat + 16777216 * c3.toNat + 4294967296 * c4.toNat + 1099511627776 * c5.toNat + 281474976710656 * c6.toNat + 72057594037927936 * c7.toNat
theorem sum8_lt (c0 c1 c2 c3 c4 c5 c6 c7 : UInt8) : sum8 c0 c1 c2 c3 c4 c5 c6 c7 < 18446744073709551616 := by
  have := lt8 c0; have := lt8 c1; have := lt8 c2; have := lt8 c3; have := lt8 c4; have := lt8 c5; have := lt8 c6; have := lt8 c7
  unfold sum8; omega
theorem leB_8 (c0 c1 c2 c3 c4 c5 c6 c7 : UInt8) (l : List UInt8) : leB (c0 :: c1 :: c2 :: c3 :: c4 :: c5 :: c6 :: c7 :: l) = sum8 c0 c1 c2 c3 c4 c5 c6 c7 + 18446744073709551616 * leB l := by
  simp only [leB, sum8]; omega
theorem leB_eta {b : List UInt8} (hb : b.length = 32) : leB b = sum8 (b.getD 0 0) (b.getD 1 0) (b.getD 2 0) (b.getD 3 0) (b.getD 4 0) (b.getD 5 0) (b.getD 6 0) (b.getD 7 0) + 18446744073709551616 * (sum8 (b.getD 8 0) (b.getD 9 0) (b.getD 10 0) (b.getD 11 0) (b.getD 12 0) (b.getD 13 0) (b.getD 14 0) (b.getD 15 0) + 18446744073709551616 * (sum8 (b.getD 16 0) (b.getD 17 0) (b.getD 18 0) (b.getD 19 0) (b.getD 20 0) (b.getD 21 0) (b.getD 22 0) (b.getD 23 0) + 18446744073709551616 * sum8 (b.getD 24 0) (b.getD 25 0) (b.getD 26 0) (b.getD 27 0) (b.getD 28 0) (b.getD 29 0) (b.getD 30 0) (b.getD 31 0))) := by
  have h : leB b = leB (etaB 32 0 b) := congrArg leB (eta_b hb)
  rw [h]
  simp only [etaB, leB_8, Nat.zero_add, Nat.reduceAdd, show leB [] = 0 from rfl, Nat.mul_zero, Nat.add_zero]
theorem from_law {b : List UInt8} (hb : b.length = 32) : val (orB (orB (orB (orB (orB (orB (orB (orB 0 (b.getD 0 0) 0) (b.getD 1 0) 8) (b.getD 2 0) 16) (b.getD 3 0) 24) (b.getD 4 0) 32) (b.getD 5 0) 40) (b.getD 6 0) 48) (b.getD 7 0) 56) (orB (orB (orB (orB (orB (orB (orB (orB 0 (b.getD 8 0) 0) (b.getD 9 0) 8) (b.getD 10 0) 16) (b.getD 11 0) 24) (b.getD 12 0) 32) (b.getD 13 0) 40) (b.getD 14 0) 48) (b.getD 15 0) 56) (orB (orB (orB (orB (orB (orB (orB (orB 0 (b.getD 16 0) 0) (b.getD 17 0) 8) (b.getD 18 0) 16) (b.getD 19 0) 24) (b.getD 20 0) 32) (b.getD 21 0) 40) (b.getD 22 0) 48) (b.getD 23 0) 56) ((orB (orB (orB (orB (orB (orB (orB (orB 0 (b.getD 24 0) 0) (b.getD 25 0) 8) (b.getD 26 0) 16) (b.getD 27 0) 24) (b.getD 28 0) 32) (b.getD 29 0) 40) (b.getD 30 0) 48) (b.getD 31 0) 56) &&& 9223372036854775807) = leB b % 57896044618658097711785492504343953926634992332820282019728792003956564819968 := by
  rw [leB_eta hb]
  unfold val
  rw [mask63, limb8, limb8, limb8, limb8]
  have h0 := sum8_lt (b.getD 0 0) (b.getD 1 0) (b.getD 2 0) (b.getD 3 0) (b.getD 4 0) (b.getD 5 0) (b.getD 6 0) (b.getD 7 0)
  have h1 := sum8_lt (b.getD 8 0) (b.getD 9 0) (b.getD 10 0) (b.getD 11 0) (b.getD 12 0) (b.getD 13 0) (b.getD 14 0) (b.getD 15 0)
  have h2 := sum8_lt (b.getD 16 0) (b.getD 17 0) (b.getD 18 0) (b.getD 19 0) (b.getD 20 0) (b.getD 21 0) (b.getD 22 0) (b.getD 23 0)
  have h3 := sum8_lt (b.getD 24 0) (b.getD 25 0) (b.getD 26 0) (b.getD 27 0) (b.getD 28 0) (b.getD 29 0) (b.getD 30 0) (b.getD 31 0)
  simp only [← sum8.eq_1]
  generalize sum8 (b.getD 0 0) (b.getD 1 0) (b.getD 2 0) (b.getD 3 0) (b.getD 4 0) (b.getD 5 0) (b.getD 6 0) (b.getD 7 0) = s0 at *
  generalize sum8 (b.getD 8 0) (b.getD 9 0) (b.getD 10 0) (b.getD 11 0) (b.getD 12 0) (b.getD 13 0) (b.getD 14 0) (b.getD 15 0) = s1 at *
  generalize sum8 (b.getD 16 0) (b.getD 17 0) (b.getD 18 0) (b.getD 19 0) (b.getD 20 0) (b.getD 21 0) (b.getD 22 0) (b.getD 23 0) = s2 at *
  generalize sum8 (b.getD 24 0) (b.getD 25 0) (b.getD 26 0) (b.getD 27 0) (b.getD 28 0) (b.getD 29 0) (b.getD 30 0) (b.getD 31 0) = s3 at *
  omega

end Go.Fld
