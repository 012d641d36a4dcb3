/- The bytes of a number, and back. -/
import Derived.Test.YtfjmpdoidkblcaaDoorNumO
import Derived.Test.YtfjmpdoidkblcaaDoorPrimeP
set_option linter.unusedSimpArgs false
set_option linter.unusedVariables false
namespace Go.Fld
open Go Go.V

/-- So many bytes of a number, the least first. -/
def bytesN : Nat → Nat → List UInt8
  | 0, _ => []
  | k + 1, n => UInt8.ofNat n :: bytesN k (n / 256)
theorem length_bytesN : ∀ (k n : Nat), (bytesN k n).length = k
  | 0, _ => rfl
  | k + 1, n => by simp [bytesN, length_bytesN k]
theorem leB_bytesN : ∀ (k n : Nat), n < 256 ^ k → leB (bytesN k n) = n
  | 0, n, h => by simp at h; subst h; rfl
  | k + 1, n, h => by
    rw [bytesN, leB, leB_bytesN k _ (by rw [Nat.pow_succ] at h; omega), UInt8.toNat_ofNat']
    omega
theorem bytesN_leB : ∀ (l : List UInt8), bytesN l.length (leB l) = l
  | [] => rfl
  | c :: l => by
    have := lt8 c
    rw [List.length_cons, bytesN, leB, show (c.toNat + 256 * leB l) / 256 = leB l by omega, bytesN_leB l]
    congr 1
    apply UInt8.toNat.inj
    rw [UInt8.toNat_ofNat']
    omega
theorem leB_lt : ∀ (l : List UInt8), leB l < 256 ^ l.length
  | [] => by simp [leB]
  | c :: l => by
    have := lt8 c
    have := leB_lt l
    rw [List.length_cons, Nat.pow_succ, leB]
    omega
theorem shr_byte (a : UInt64) (k : Nat) (hk : k ≤ 56) : (shr64 a k).toUInt8 = UInt8.ofNat (a.toNat / 2 ^ k) := by
  apply UInt8.toNat.inj
  have h := lt64 a
  rw [UInt64.toNat_toUInt8, UInt8.toNat_ofNat']
  unfold shr64
  rw [toNat_of, Nat.mod_eq_of_lt (Nat.lt_of_le_of_lt (Nat.div_le_self _ _) h)]
theorem bytesN_limb (a : UInt64) (k m : Nat) : bytesN (k + 8) (a.toNat + 18446744073709551616 * m) =
    (shr64 a 0).toUInt8 :: (shr64 a 8).toUInt8 :: (shr64 a 16).toUInt8 :: (shr64 a 24).toUInt8 :: (shr64 a 32).toUInt8 :: (shr64 a 40).toUInt8 :: (shr64 a 48).toUInt8 :: (shr64 a 56).toUInt8 :: bytesN k m := by
  have h := lt64 a
  have e : ∀ x y : Nat, x % 256 = y % 256 → UInt8.ofNat x = UInt8.ofNat y := fun x y hxy => by
    apply UInt8.toNat.inj; rw [UInt8.toNat_ofNat', UInt8.toNat_ofNat']; exact hxy
  simp only [shr_byte a 0 (by decide), shr_byte a 8 (by decide), shr_byte a 16 (by decide), shr_byte a 24 (by decide), shr_byte a 32 (by decide), shr_byte a 40 (by decide), shr_byte a 48 (by decide), shr_byte a 56 (by decide)]
  simp only [bytesN]
  rw [show (a.toNat + 18446744073709551616 * m) / 256 / 256 / 256 / 256 / 256 / 256 / 256 / 256 = m by omega]
  simp only [List.cons.injEq, and_true]
  refine ⟨e _ _ ?_, e _ _ ?_, e _ _ ?_, e _ _ ?_, e _ _ ?_, e _ _ ?_, e _ _ ?_, e _ _ ?_⟩ <;> omega
theorem bytes_law (a0 a1 a2 a3 : UInt64) : bytesN 32 (val a0 a1 a2 a3) = [(shr64 a0 0).toUInt8, (shr64 a0 8).toUInt8, (shr64 a0 16).toUInt8, (shr64 a0 24).toUInt8, (shr64 a0 32).toUInt8, (shr64 a0 40).toUInt8, (shr64 a0 48).toUInt8, (shr64 a0 56).toUInt8, (shr64 a1 0).toUInt8, (shr64 a1 8).toUInt8, (shr64 a1 16).toUInt8, (shr64 a1 24).toUInt8, (shr64 a1 32).toUInt8, (shr64 a1 40).toUInt8, (shr64 a1 48).toUInt8, (shr64 a1 56).toUInt8, (shr64 a2 0).toUInt8, (shr64 a2 8).toUInt8, (shr64 a2 16).toUInt8, (shr64 a2 24).toUInt8, (shr64 a2 32).toUInt8, (shr64 a2 40).toUInt8, (shr64 a2 48).toUInt8, (shr64 a2 56).toUInt8, (shr64 a3 0).toUInt8, (shr64 a3 8).toUInt8, (shr64 a3 16).toUInt8, (shr64 a3 24).toUInt8, (shr64 a3 32).toUInt8, (shr64 a3 40).toUInt8, (shr64 a3 48).toUInt8, (shr64 a3 56).toUInt8] := by
  have e : val a0 a1 a2 a3 = a0.toNat + 18446744073709551616 * (a1.toNat + 18446744073709551616 * (a2.toNat + 18446744073709551616 * (a3.toNat + 18446744073709551616 * 0))) := by
    unfold val; omega
  rw [e, show (32 : Nat) = 0 + 8 + 8 + 8 + 8 from rfl, bytesN_limb, bytesN_limb, bytesN_limb, bytesN_limb]
  rfl
theorem bytesN_last {n : Nat} (h : n < 57896044618658097711785492504343953926634992332820282019728792003956564819968) : (bytesN 32 n).getD 31 0 < 128 := by
  have e : (bytesN 32 n).getD 31 0 = UInt8.ofNat (n / 452312848583266388373324160190187140051835877600158453279131187530910662656) := by
    simp only [bytesN, List.getD_cons_succ, List.getD_cons_zero, Nat.div_div_eq_div_mul, Nat.reduceMul]
  rw [e, UInt8.lt_iff_toNat_lt, UInt8.toNat_ofNat', show (128 : UInt8).toNat = 128 from rfl]
  omega

theorem prm_pr : Go.Num.Pr prm := Go.Num.pr_57896044618658097711785492504343953926634992332820282019728792003956564819949

/-- Two numbers' parts are the same just if they are. -/
theorem fe_inj {a b : Nat} (ha : a < top) (hb : b < top) (h : fe a = fe b) : a = b := by
  obtain ⟨a0, a1, a2, a3, rfl⟩ := val_ex ha
  obtain ⟨b0, b1, b2, b3, rfl⟩ := val_ex hb
  rw [fe_val, fe_val] at h
  simp at h
  obtain ⟨rfl, rfl, rfl, rfl⟩ := h
  rfl
end Go.Fld
