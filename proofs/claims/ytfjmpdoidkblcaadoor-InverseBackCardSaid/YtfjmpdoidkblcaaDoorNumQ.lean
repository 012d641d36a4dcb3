/- Numbers of four parts as rows; sealed. -/
import Derived.Test.YtfjmpdoidkblcaaDoorNumP
set_option linter.unusedSimpArgs false
set_option linter.unusedVariables false
namespace Go.Fld
open Go Go.V

/-- The number of a row of four parts. -/
def nv (l : List UInt64) : Nat := val (l.getD 0 0) (l.getD 1 0) (l.getD 2 0) (l.getD 3 0)
noncomputable def fes : Nat → List UInt64 := (sealed fe).val
theorem fes_eq (n : Nat) : fes n = fe n := by rw [fes, (sealed fe).property]
theorem eta4 {l : List UInt64} (h : l.length = 4) : l = [l.getD 0 0, l.getD 1 0, l.getD 2 0, l.getD 3 0] := by
  match l, h with
  | [a, b, c, d], _ => rfl
theorem fe_nv {l : List UInt64} (h : l.length = 4) : fe (nv l) = l := by
  unfold nv; rw [fe_val]; exact (eta4 h).symm
theorem fes_nv {l : List UInt64} (h : l.length = 4) : fes (nv l) = l := by rw [fes_eq, fe_nv h]
theorem nv_lt (l : List UInt64) : nv l < top := val_lt _ _ _ _
theorem nv_fe {n : Nat} (h : n < top) : nv (fe n) = n := by
  obtain ⟨a0, a1, a2, a3, rfl⟩ := val_ex h
  rw [fe_val]; rfl
theorem nv_fes {n : Nat} (h : n < top) : nv (fes n) = n := by rw [fes_eq, nv_fe h]
theorem length_fes (n : Nat) : (fes n).length = 4 := by rw [fes_eq]; rfl
theorem fes_val (a0 a1 a2 a3 : UInt64) : fes (val a0 a1 a2 a3) = [a0, a1, a2, a3] := by rw [fes_eq, fe_val]
theorem nv_mk (a0 a1 a2 a3 : UInt64) : nv [a0, a1, a2, a3] = val a0 a1 a2 a3 := rfl
noncomputable def ltN : Nat → Nat → Bool := (sealed fun a b => decide (a < b)).val
theorem ltN_eq (a b : Nat) : ltN a b = decide (a < b) := by rw [ltN, (sealed fun a b => decide (a < b)).property]
noncomputable def prmS : List UInt64 := (sealed (fe prm)).val
theorem fes_beq {a b : Nat} (ha : a < top) (hb : b < top) : (fes a == fes b) = decide (a = b) := by
  by_cases h : a = b
  · subst h; simp
  · have : fes a ≠ fes b := fun e => h (by have := congrArg nv e; rwa [nv_fes ha, nv_fes hb] at this)
    simp [h, this]
end Go.Fld
namespace Go.Fld
open Go Go.V
noncomputable def mulhi : UInt64 → UInt64 → UInt64 := (sealed fun x y => UInt64.ofNat (x.toNat * y.toNat / 18446744073709551616)).val
theorem mulhi_eq (x y : UInt64) : mulhi x y = UInt64.ofNat (x.toNat * y.toNat / 18446744073709551616) := by
  rw [mulhi, (sealed fun (x y : UInt64) => UInt64.ofNat (x.toNat * y.toNat / 18446744073709551616)).property]
end Go.Fld
namespace Go.Fld
/-- A difference that goes round. -/
def subT (x y : Nat) : Nat := if x < y then x + top - y else x - y
end Go.Fld
namespace Go.Fld
open Go Go.V
def fromN (b : List UInt8) : Nat := leB b % 57896044618658097711785492504343953926634992332820282019728792003956564819968 % prm
noncomputable def bytesS : Nat → List UInt8 := (sealed (bytesN 32)).val
theorem bytesS_eq (n : Nat) : bytesS n = bytesN 32 n := by rw [bytesS, (sealed (bytesN 32)).property]
theorem length_bytesS (n : Nat) : (bytesS n).length = 32 := by rw [bytesS_eq, length_bytesN]
theorem mod_lt (n : Nat) : n % prm < prm := Nat.mod_lt _ (by decide)
theorem prm_top : prm < top := by decide
theorem mod_top (n : Nat) : n % prm < top := Nat.lt_trans (mod_lt n) prm_top
theorem fromN_lt (b : List UInt8) : fromN b < prm := mod_lt _
theorem fromN_top (b : List UInt8) : fromN b < top := mod_top _
theorem nv_mod (n : Nat) : nv (fes (n % prm)) = n % prm := nv_fes (mod_top n)
theorem nv_from (b : List UInt8) : nv (fes (fromN b)) = fromN b := nv_fes (fromN_top b)
theorem ltN_mod (n : Nat) : ltN (n % prm) prm = true := by rw [ltN_eq]; exact decide_eq_true (mod_lt n)
theorem ltN_from (b : List UInt8) : ltN (fromN b) prm = true := ltN_mod _
theorem from_bytes {n : Nat} (h : n < prm) : fromN (bytesS n) = n := by
  have e : prm < 57896044618658097711785492504343953926634992332820282019728792003956564819968 := by decide
  rw [fromN, bytesS_eq, leB_bytesN 32 n (Nat.lt_trans (Nat.lt_trans h e) (by decide)), Nat.mod_eq_of_lt (Nat.lt_trans h e), Nat.mod_eq_of_lt h]
/-- Taken to the power of the prime less two, by bits: so many are left. -/
noncomputable def invS (a : List UInt64) : Nat → List UInt64 → List UInt64
  | 0, out => out
  | k + 1, out => invS a k (bif k == 4 || k == 2 then fes (nv out * nv out % prm) else fes (nv (fes (nv out * nv out % prm)) * nv a % prm))
theorem inv_bits : (List.range 255).all (fun i => (prm - 2) / 2 ^ i == 2 * ((prm - 2) / 2 ^ (i + 1)) + if i = 4 ∨ i = 2 then 0 else 1) = true := by kernel_rfl
theorem inv_bit {i : Nat} (h : i < 255) : (prm - 2) / 2 ^ i = 2 * ((prm - 2) / 2 ^ (i + 1)) + if i = 4 ∨ i = 2 then 0 else 1 := by
  have := List.all_eq_true.1 inv_bits i (by simpa using h)
  simpa using this
theorem invS_eq {a : List UInt64} : ∀ (k : Nat) (out : List UInt64), k ≤ 255 → out = fes (nv a ^ ((prm - 2) / 2 ^ k) % prm) → invS a k out = fes (nv a ^ (prm - 2) % prm)
  | 0, out, _, h => by rw [invS, h]; simp
  | k + 1, out, hk, h => by
    rw [invS]
    refine invS_eq k _ (by omega) ?_
    have hb := inv_bit (i := k) (by omega)
    have hn : nv out = nv a ^ ((prm - 2) / 2 ^ (k + 1)) % prm := by rw [h, nv_mod]
    rw [nv_mod, hn]
    generalize nv a = x at *
    generalize (prm - 2) / 2 ^ (k + 1) = e at *
    by_cases hc : k = 4 ∨ k = 2
    · rw [if_pos hc] at hb
      have : (k == 4 || k == 2) = true := by simpa using hc
      rw [this, cond_true, hb, ← Nat.mul_mod, Nat.add_zero, ← Nat.pow_add, Nat.two_mul]
    · rw [if_neg hc] at hb
      have : (k == 4 || k == 2) = false := by simpa using hc
      rw [this, cond_false, hb, Nat.mod_mul_mod, Nat.pow_succ, Nat.two_mul, Nat.pow_add]
      congr 1
      rw [Nat.mul_mod (x ^ e % prm * (x ^ e % prm)) x, ← Nat.mul_mod (x ^ e) (x ^ e), ← Nat.mul_mod]
end Go.Fld
