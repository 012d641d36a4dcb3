/- The law behind the product: rows of parts. -/
import Derived.Test.YtfjmpdoidkblcaaDoorNumM
set_option linter.unusedSimpArgs false
set_option linter.unusedVariables false
namespace Go.Fld
open Go Go.V

theorem mul_expand (a0 a1 a2 a3 b0 b1 b2 b3 : Nat) :
    (a0 + 18446744073709551616 * a1 + 340282366920938463463374607431768211456 * a2 + 6277101735386680763835789423207666416102355444464034512896 * a3) *
    (b0 + 18446744073709551616 * b1 + 340282366920938463463374607431768211456 * b2 + 6277101735386680763835789423207666416102355444464034512896 * b3) =
    (a0 * b0 + 18446744073709551616 * (a0 * b1) + 340282366920938463463374607431768211456 * (a0 * b2) + 6277101735386680763835789423207666416102355444464034512896 * (a0 * b3)) +
    18446744073709551616 * (a1 * b0 + 18446744073709551616 * (a1 * b1) + 340282366920938463463374607431768211456 * (a1 * b2) + 6277101735386680763835789423207666416102355444464034512896 * (a1 * b3)) +
    340282366920938463463374607431768211456 * (a2 * b0 + 18446744073709551616 * (a2 * b1) + 340282366920938463463374607431768211456 * (a2 * b2) + 6277101735386680763835789423207666416102355444464034512896 * (a2 * b3)) +
    6277101735386680763835789423207666416102355444464034512896 * (a3 * b0 + 18446744073709551616 * (a3 * b1) + 340282366920938463463374607431768211456 * (a3 * b2) + 6277101735386680763835789423207666416102355444464034512896 * (a3 * b3)) := by
  grind

theorem mul_law {a0 a1 a2 a3 b0 b1 b2 b3 : UInt64} {l00 c00 l01 c01 l02 c02 l03 c03 l10 c10 l11 c11 l12 c12 l13 c13 l20 c20 l21 c21 l22 c22 l23 c23 l30 c30 l31 c31 l32 c32 l33 c33 r0 d0 r1 d1 r2 d2 r3 d3 : UInt64}
    (e00 : l00.toNat + 18446744073709551616 * c00.toNat = a0.toNat * b0.toNat + UInt64.toNat 0 + UInt64.toNat 0)
    (e01 : l01.toNat + 18446744073709551616 * c01.toNat = a0.toNat * b1.toNat + UInt64.toNat 0 + c00.toNat)
    (e02 : l02.toNat + 18446744073709551616 * c02.toNat = a0.toNat * b2.toNat + UInt64.toNat 0 + c01.toNat)
    (e03 : l03.toNat + 18446744073709551616 * c03.toNat = a0.toNat * b3.toNat + UInt64.toNat 0 + c02.toNat)
    (e10 : l10.toNat + 18446744073709551616 * c10.toNat = a1.toNat * b0.toNat + l01.toNat + UInt64.toNat 0)
    (e11 : l11.toNat + 18446744073709551616 * c11.toNat = a1.toNat * b1.toNat + l02.toNat + c10.toNat)
    (e12 : l12.toNat + 18446744073709551616 * c12.toNat = a1.toNat * b2.toNat + l03.toNat + c11.toNat)
    (e13 : l13.toNat + 18446744073709551616 * c13.toNat = a1.toNat * b3.toNat + c03.toNat + c12.toNat)
    (e20 : l20.toNat + 18446744073709551616 * c20.toNat = a2.toNat * b0.toNat + l11.toNat + UInt64.toNat 0)
    (e21 : l21.toNat + 18446744073709551616 * c21.toNat = a2.toNat * b1.toNat + l12.toNat + c20.toNat)
    (e22 : l22.toNat + 18446744073709551616 * c22.toNat = a2.toNat * b2.toNat + l13.toNat + c21.toNat)
    (e23 : l23.toNat + 18446744073709551616 * c23.toNat = a2.toNat * b3.toNat + c13.toNat + c22.toNat)
    (e30 : l30.toNat + 18446744073709551616 * c30.toNat = a3.toNat * b0.toNat + l21.toNat + UInt64.toNat 0)
    (e31 : l31.toNat + 18446744073709551616 * c31.toNat = a3.toNat * b1.toNat + l22.toNat + c30.toNat)
    (e32 : l32.toNat + 18446744073709551616 * c32.toNat = a3.toNat * b2.toNat + l23.toNat + c31.toNat)
    (e33 : l33.toNat + 18446744073709551616 * c33.toNat = a3.toNat * b3.toNat + c23.toNat + c32.toNat)
    (f0 : r0.toNat + 18446744073709551616 * d0.toNat = l31.toNat * UInt64.toNat 38 + l00.toNat + UInt64.toNat 0)
    (f1 : r1.toNat + 18446744073709551616 * d1.toNat = l32.toNat * UInt64.toNat 38 + l10.toNat + d0.toNat)
    (f2 : r2.toNat + 18446744073709551616 * d2.toNat = l33.toNat * UInt64.toNat 38 + l20.toNat + d1.toNat)
    (f3 : r3.toNat + 18446744073709551616 * d3.toNat = c33.toNat * UInt64.toNat 38 + l30.toNat + d2.toNat) :
    (38 * d3).toNat = 38 * d3.toNat ∧ d3.toNat ≤ 38 ∧ (val r0 r1 r2 r3 + 38 * d3.toNat) % prm = (val a0 a1 a2 a3 * val b0 b1 b2 b3) % prm := by
  have z0 : UInt64.toNat 0 = 0 := rfl
  have z38 : UInt64.toNat 38 = 38 := rfl
  simp only [z0, z38, Nat.add_zero] at e00 e01 e02 e03 e10 e11 e12 e13 e20 e21 e22 e23 e30 e31 e32 e33 f0 f1 f2 f3
  have h1 : val l00 l10 l20 l30 + top * val l31 l32 l33 c33 = val a0 a1 a2 a3 * val b0 b1 b2 b3 := by
    unfold val top
    rw [mul_expand]
    omega
  have h2 : val r0 r1 r2 r3 + top * d3.toNat = val l00 l10 l20 l30 + 38 * val l31 l32 l33 c33 := by
    unfold val top
    omega
  have x1 := val_lt l00 l10 l20 l30
  have x2 := val_lt l31 l32 l33 c33
  have x3 := val_lt r0 r1 r2 r3
  have hd : d3.toNat ≤ 38 := by
    have g : top = 115792089237316195423570985008687907853269984665640564039457584007913129639936 := rfl
    rw [g] at h2 x1 x2 x3
    clear h1 e00 e01 e02 e03 e10 e11 e12 e13 e20 e21 e22 e23 e30 e31 e32 e33 f0 f1 f2 f3
    omega
  refine ⟨?_, hd, ?_⟩
  · rw [UInt64.toNat_mul, z38]; omega
  · rw [mod38, h2, mod38, h1]

end Go.Fld
