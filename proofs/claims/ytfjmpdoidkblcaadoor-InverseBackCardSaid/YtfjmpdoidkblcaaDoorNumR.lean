/- A product of numbers of four parts, cell by cell. -/
import Derived.Test.YtfjmpdoidkblcaaDoorNumQ
set_option linter.unusedSimpArgs false
set_option linter.unusedVariables false
namespace Go.Fld
open Go Go.V

theorem cell (x y o c : UInt64) : ((((x * y) + o) + 0 + c) + 0).toNat + 18446744073709551616 * ((mulhi x y + carry64 (x * y) o 0) + carry64 (((x * y) + o) + 0) c 0).toNat = x.toNat * y.toNat + o.toNat + c.toNat := by
  have p0 := add_part (x * y) o 0 (by decide)
  have p1 := add_part (x * y + o + 0) c 0 (by decide)
  have hx := lt64 x
  have hy := lt64 y
  have ho := lt64 o
  have hc := lt64 c
  have z : (0 : UInt64).toNat = 0 := rfl
  rw [z] at p0 p1
  have m : (x * y).toNat + 18446744073709551616 * (mulhi x y).toNat = x.toNat * y.toNat := by
    rw [mulhi_eq, UInt64.toNat_mul, toNat_of]
    have : x.toNat * y.toNat < 18446744073709551616 * 18446744073709551616 := Nat.mul_lt_mul'' hx hy
    omega
  have hm : x.toNat * y.toNat ≤ 18446744073709551615 * 18446744073709551615 := Nat.mul_le_mul (by omega) (by omega)
  generalize x.toNat * y.toNat = w at *
  generalize x * y + o + 0 = u at *
  generalize carry64 (x * y) o 0 = k0 at *
  generalize x * y = v at *
  rw [UInt64.toNat_add (mulhi x y + k0), UInt64.toNat_add (mulhi x y)]
  generalize carry64 u c 0 = k1 at *
  generalize u + c + 0 = t at *
  generalize mulhi x y = h at *
  have := lt64 t
  have := lt64 u
  omega

/-- A cell of a product: what stays, and what goes over. -/
noncomputable def cellP {α : Type} (x y o c : UInt64) (k : UInt64 → UInt64 → α) : α := k ((((x * y) + o) + 0 + c) + 0) ((mulhi x y + carry64 (x * y) o 0) + carry64 (((x * y) + o) + 0) c 0)
theorem cellP_elim {α : Type} {Q : α → Prop} (x y o c : UInt64) (k : UInt64 → UInt64 → α) (h : ∀ l u, l.toNat + 18446744073709551616 * u.toNat = x.toNat * y.toNat + o.toNat + c.toNat → Q (k l u)) : Q (cellP x y o c k) := h _ _ (cell x y o c)

noncomputable def mulSpec (a0 a1 a2 a3 b0 b1 b2 b3 : UInt64) : List UInt64 × UInt64 :=
  cellP a0 b0 0 0 fun l00 c00 =>
  cellP a0 b1 0 c00 fun l01 c01 =>
  cellP a0 b2 0 c01 fun l02 c02 =>
  cellP a0 b3 0 c02 fun l03 c03 =>
  cellP a1 b0 l01 0 fun l10 c10 =>
  cellP a1 b1 l02 c10 fun l11 c11 =>
  cellP a1 b2 l03 c11 fun l12 c12 =>
  cellP a1 b3 c03 c12 fun l13 c13 =>
  cellP a2 b0 l11 0 fun l20 c20 =>
  cellP a2 b1 l12 c20 fun l21 c21 =>
  cellP a2 b2 l13 c21 fun l22 c22 =>
  cellP a2 b3 c13 c22 fun l23 c23 =>
  cellP a3 b0 l21 0 fun l30 c30 =>
  cellP a3 b1 l22 c30 fun l31 c31 =>
  cellP a3 b2 l23 c31 fun l32 c32 =>
  cellP a3 b3 c23 c32 fun l33 c33 =>
  cellP l31 38 l00 0 fun r0 d0 =>
  cellP l32 38 l10 d0 fun r1 d1 =>
  cellP l33 38 l20 d1 fun r2 d2 =>
  cellP c33 38 l30 d2 fun r3 d3 =>
  ([r0, r1, r2, r3], 38 * d3)

def mulOk (a0 a1 a2 a3 b0 b1 b2 b3 : UInt64) (z : List UInt64 × UInt64) : Prop := z.2.toNat ≤ 1444 ∧ (nv z.1 + z.2.toNat) % prm = (val a0 a1 a2 a3 * val b0 b1 b2 b3) % prm

theorem mulSpec_ok (a0 a1 a2 a3 b0 b1 b2 b3 : UInt64) : mulOk a0 a1 a2 a3 b0 b1 b2 b3 (mulSpec a0 a1 a2 a3 b0 b1 b2 b3) := by
  unfold mulSpec
  refine cellP_elim (Q := mulOk a0 a1 a2 a3 b0 b1 b2 b3) _ _ _ _ _ fun l00 c00 e00 => ?_
  refine cellP_elim (Q := mulOk a0 a1 a2 a3 b0 b1 b2 b3) _ _ _ _ _ fun l01 c01 e01 => ?_
  refine cellP_elim (Q := mulOk a0 a1 a2 a3 b0 b1 b2 b3) _ _ _ _ _ fun l02 c02 e02 => ?_
  refine cellP_elim (Q := mulOk a0 a1 a2 a3 b0 b1 b2 b3) _ _ _ _ _ fun l03 c03 e03 => ?_
  refine cellP_elim (Q := mulOk a0 a1 a2 a3 b0 b1 b2 b3) _ _ _ _ _ fun l10 c10 e10 => ?_
  refine cellP_elim (Q := mulOk a0 a1 a2 a3 b0 b1 b2 b3) _ _ _ _ _ fun l11 c11 e11 => ?_
  refine cellP_elim (Q := mulOk a0 a1 a2 a3 b0 b1 b2 b3) _ _ _ _ _ fun l12 c12 e12 => ?_
  refine cellP_elim (Q := mulOk a0 a1 a2 a3 b0 b1 b2 b3) _ _ _ _ _ fun l13 c13 e13 => ?_
  refine cellP_elim (Q := mulOk a0 a1 a2 a3 b0 b1 b2 b3) _ _ _ _ _ fun l20 c20 e20 => ?_
  refine cellP_elim (Q := mulOk a0 a1 a2 a3 b0 b1 b2 b3) _ _ _ _ _ fun l21 c21 e21 => ?_
  refine cellP_elim (Q := mulOk a0 a1 a2 a3 b0 b1 b2 b3) _ _ _ _ _ fun l22 c22 e22 => ?_
  refine cellP_elim (Q := mulOk a0 a1 a2 a3 b0 b1 b2 b3) _ _ _ _ _ fun l23 c23 e23 => ?_
  refine cellP_elim (Q := mulOk a0 a1 a2 a3 b0 b1 b2 b3) _ _ _ _ _ fun l30 c30 e30 => ?_
  refine cellP_elim (Q := mulOk a0 a1 a2 a3 b0 b1 b2 b3) _ _ _ _ _ fun l31 c31 e31 => ?_
  refine cellP_elim (Q := mulOk a0 a1 a2 a3 b0 b1 b2 b3) _ _ _ _ _ fun l32 c32 e32 => ?_
  refine cellP_elim (Q := mulOk a0 a1 a2 a3 b0 b1 b2 b3) _ _ _ _ _ fun l33 c33 e33 => ?_
  refine cellP_elim (Q := mulOk a0 a1 a2 a3 b0 b1 b2 b3) _ _ _ _ _ fun r0 d0 f0 => ?_
  refine cellP_elim (Q := mulOk a0 a1 a2 a3 b0 b1 b2 b3) _ _ _ _ _ fun r1 d1 f1 => ?_
  refine cellP_elim (Q := mulOk a0 a1 a2 a3 b0 b1 b2 b3) _ _ _ _ _ fun r2 d2 f2 => ?_
  refine cellP_elim (Q := mulOk a0 a1 a2 a3 b0 b1 b2 b3) _ _ _ _ _ fun r3 d3 f3 => ?_
  obtain ⟨k1, k2, k3⟩ := mul_law (a0 := a0) (a1 := a1) (a2 := a2) (a3 := a3) (b0 := b0) (b1 := b1) (b2 := b2) (b3 := b3) e00 e01 e02 e03 e10 e11 e12 e13 e20 e21 e22 e23 e30 e31 e32 e33 f0 f1 f2 f3
  exact ⟨by show (38 * d3).toNat ≤ 1444; omega, by show (nv [r0, r1, r2, r3] + (38 * d3).toNat) % prm = _; rw [nv_mk, k1]; exact k3⟩
end Go.Fld
