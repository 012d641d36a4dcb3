/- Numbers of four parts: their value, sums and differences part by part. -/
import Derived.Test.YtfjmpdoidkblcaaDoorVB
set_option linter.unusedSimpArgs false
set_option linter.unusedVariables false
namespace Go.Fld
open Go Go.V

def val (a0 a1 a2 a3 : UInt64) : Nat := a0.toNat + 18446744073709551616 * a1.toNat + 340282366920938463463374607431768211456 * a2.toNat + 6277101735386680763835789423207666416102355444464034512896 * a3.toNat
def fe (n : Nat) : List UInt64 := [UInt64.ofNat n, UInt64.ofNat (n / 18446744073709551616), UInt64.ofNat (n / 340282366920938463463374607431768211456), UInt64.ofNat (n / 6277101735386680763835789423207666416102355444464034512896)]
def top : Nat := 115792089237316195423570985008687907853269984665640564039457584007913129639936
def prm : Nat := 57896044618658097711785492504343953926634992332820282019728792003956564819949

theorem lt64 (a : UInt64) : a.toNat < 18446744073709551616 := a.toNat_lt
theorem ofNat_eq {a : UInt64} {n : Nat} (h : n % 18446744073709551616 = a.toNat) : UInt64.ofNat n = a := by
  apply UInt64.toNat.inj; rw [UInt64.toNat_ofNat']; exact h
theorem toNat_of (n : Nat) : (UInt64.ofNat n).toNat = n % 18446744073709551616 := UInt64.toNat_ofNat'

theorem fe_val (a0 a1 a2 a3 : UInt64) : fe (val a0 a1 a2 a3) = [a0, a1, a2, a3] := by
  have := lt64 a0; have := lt64 a1; have := lt64 a2; have := lt64 a3
  unfold fe val
  rw [ofNat_eq (a := a0), ofNat_eq (a := a1), ofNat_eq (a := a2), ofNat_eq (a := a3)] <;> omega

theorem val_lt (a0 a1 a2 a3 : UInt64) : val a0 a1 a2 a3 < top := by
  have := lt64 a0; have := lt64 a1; have := lt64 a2; have := lt64 a3
  unfold val top; omega

theorem val_ex {n : Nat} (h : n < top) : ∃ a0 a1 a2 a3, n = val a0 a1 a2 a3 := by
  refine ⟨UInt64.ofNat n, UInt64.ofNat (n / 18446744073709551616), UInt64.ofNat (n / 340282366920938463463374607431768211456), UInt64.ofNat (n / 6277101735386680763835789423207666416102355444464034512896), ?_⟩
  unfold top at h
  unfold val
  simp only [toNat_of]
  omega

theorem sub_part (x y c : UInt64) (hc : c.toNat ≤ 1) :
    (x - y - c).toNat + y.toNat + c.toNat = x.toNat + 18446744073709551616 * (borrow64 x y c).toNat ∧ (borrow64 x y c).toNat ≤ 1 := by
  have := lt64 x; have := lt64 y
  have h : (borrow64 x y c).toNat = if x.toNat < y.toNat + c.toNat then 1 else 0 := by
    rw [borrow64_eq]; split <;> rfl
  rw [h, UInt64.toNat_sub, UInt64.toNat_sub]
  split <;> constructor <;> omega

theorem add_part (x y c : UInt64) (hc : c.toNat ≤ 1) :
    (x + y + c).toNat + 18446744073709551616 * (carry64 x y c).toNat = x.toNat + y.toNat + c.toNat ∧ (carry64 x y c).toNat ≤ 1 := by
  have := lt64 x; have := lt64 y
  have h : (carry64 x y c).toNat = if 18446744073709551616 ≤ x.toNat + y.toNat + c.toNat then 1 else 0 := by
    rw [carry64_eq]; split
    · rw [if_neg (by omega)]; rfl
    · rw [if_pos (by omega)]; rfl
  rw [h, UInt64.toNat_add, UInt64.toNat_add]
  split <;> constructor <;> omega

theorem set_one {a : Nat} (h : a < top) (h1 : ¬ a < prm) : a - prm < top := by unfold top at *; omega
theorem set_mod {a : Nat} (h1 : ¬ a < prm) (h2 : a - prm < prm) : a % prm = a - prm := by
  rw [Nat.mod_eq_sub_mod (Nat.le_of_not_lt h1), Nat.mod_eq_of_lt h2]
theorem set_two {a : Nat} (h : a < top) : a - prm - prm < prm := by
  have e : top = 2 * prm + 38 := by decide
  have e2 : 38 < prm := by decide
  omega
theorem set_mod2 {a : Nat} (h : a < top) (h1 : ¬ a < prm) (h2 : ¬ a - prm < prm) : a % prm = a - prm - prm := by
  rw [Nat.mod_eq_sub_mod (Nat.le_of_not_lt h1), Nat.mod_eq_sub_mod (Nat.le_of_not_lt h2), Nat.mod_eq_of_lt (set_two h)]

def plusN (a n : Nat) : Nat := if a + n < top then a + n else a + n - top + 38
theorem add_val (a0 a1 a2 a3 b0 b1 b2 b3 c : UInt64) (hc : c.toNat ≤ 1) : ∃ k, (carry64 a3 b3 (carry64 a2 b2 (carry64 a1 b1 (carry64 a0 b0 c)))).toNat = k ∧ k ≤ 1 ∧
    val (a0 + b0 + c) (a1 + b1 + carry64 a0 b0 c) (a2 + b2 + carry64 a1 b1 (carry64 a0 b0 c)) (a3 + b3 + carry64 a2 b2 (carry64 a1 b1 (carry64 a0 b0 c))) + top * k = val a0 a1 a2 a3 + val b0 b1 b2 b3 + c.toNat := by
  have p0 := add_part a0 b0 c hc
  have p1 := add_part a1 b1 _ p0.2
  have p2 := add_part a2 b2 _ p1.2
  have p3 := add_part a3 b3 _ p2.2
  refine ⟨_, rfl, p3.2, ?_⟩
  generalize carry64 a0 b0 c = c0 at *
  generalize carry64 a1 b1 c0 = c1 at *
  generalize carry64 a2 b2 c1 = c2 at *
  generalize carry64 a3 b3 c2 = c3 at *
  unfold val top
  omega
theorem times38 (c : UInt64) {k : Nat} (h : c.toNat = k) (hk : k ≤ 1) : (38 * c).toNat = 38 * k := by
  rw [UInt64.toNat_mul, h, show (38 : UInt64).toNat = 38 from rfl]; omega

theorem top_prm : top = 2 * prm + 38 := by decide
theorem plus_lt {a n : Nat} (ha : a < top) (hn : n < 18446744073709551616) : plusN a n < top := by
  have g : top = 115792089237316195423570985008687907853269984665640564039457584007913129639936 := rfl
  unfold plusN; split <;> omega
theorem plus_mod (a n : Nat) : plusN a n % prm = (a + n) % prm := by
  unfold plusN
  split
  · rfl
  · have e : a + n = (a + n - top + 38) + prm * 2 := by have := top_prm; omega
    generalize a + n - top + 38 = z at e ⊢
    rw [e, Nat.add_mul_mod_self_left]
theorem mod38 (a k : Nat) : (a + 38 * k) % prm = (a + top * k) % prm := by
  rw [show a + top * k = (a + 38 * k) + prm * (2 * k) by rw [top_prm, Nat.add_mul, ← Nat.mul_assoc prm 2 k, Nat.mul_comm prm 2]; omega, Nat.add_mul_mod_self_left]

theorem mul64_hi (x y : UInt64) :
    shr64 x 32 * shr64 y 32 +
                  shr64 (shr64 x 32 * (y &&& 4294967295) + shr64 ((x &&& 4294967295) * (y &&& 4294967295)) 32) 32 +
                shr64
                  ((shr64 x 32 * (y &&& 4294967295) + shr64 ((x &&& 4294967295) * (y &&& 4294967295)) 32 &&&
                      4294967295) +
                    (x &&& 4294967295) * shr64 y 32)
                  32 = UInt64.ofNat (x.toNat * y.toNat / 18446744073709551616) := by
  have hx := lt64 x
  have hy := lt64 y
  have sh : ∀ z : UInt64, (shr64 z 32).toNat = z.toNat / 4294967296 := by
    intro z; have := lt64 z; unfold shr64; rw [toNat_of]; omega
  have lo : ∀ z : UInt64, (z &&& 4294967295).toNat = z.toNat % 4294967296 := by
    intro z
    rw [UInt64.toNat_and]
    exact Nat.and_two_pow_sub_one_eq_mod _ 32
  apply UInt64.toNat.inj
  rw [toNat_of]
  simp only [UInt64.toNat_add, UInt64.toNat_mul, sh, lo]
  have ex : x.toNat = 4294967296 * (x.toNat / 4294967296) + x.toNat % 4294967296 := by omega
  have ey : y.toNat = 4294967296 * (y.toNat / 4294967296) + y.toNat % 4294967296 := by omega
  have hb : x.toNat / 4294967296 < 4294967296 := by omega
  have hd : y.toNat / 4294967296 < 4294967296 := by omega
  have ha : x.toNat % 4294967296 < 4294967296 := by omega
  have hc : y.toNat % 4294967296 < 4294967296 := by omega
  generalize x.toNat / 4294967296 = b at *
  generalize x.toNat % 4294967296 = a at *
  generalize y.toNat / 4294967296 = d at *
  generalize y.toNat % 4294967296 = c at *
  have e : x.toNat * y.toNat = a * c + 4294967296 * (b * c) + 4294967296 * (a * d) + 18446744073709551616 * (b * d) := by
    rw [ex, ey]; grind
  rw [e]
  have m : ∀ u v : Nat, u < 4294967296 → v < 4294967296 → u * v ≤ 18446744065119617025 := fun u v hu hv => Nat.le_trans (Nat.mul_le_mul (Nat.le_of_lt_succ hu) (Nat.le_of_lt_succ hv)) (by decide)
  have m1 := m a c ha hc
  have m2 := m b c hb hc
  have m3 := m a d ha hd
  have m4 := m b d hb hd
  generalize a * c = p at *
  generalize b * c = q at *
  generalize a * d = r at *
  generalize b * d = s at *
  omega

end Go.Fld
