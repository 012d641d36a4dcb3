/- Keys and names of numbers. -/
import Derived.Test.YtfpladpbnbpehaaUT
import Derived.Test.YtfpladpbnbpehaaNums

set_option linter.unusedSimpArgs false
set_option linter.unusedVariables false
namespace Go.Pin
open Go Go.V
def kbytes (a b c d : UInt8) : List UInt8 := [a, b + 1, c + 4, d + 9, a + 16, b + 25, c + 36, d + 49, a + 64, b + 81, c + 100, d + 121, a + 144, b + 169, c + 196, d + 225, a, b + 33, c + 68, d + 105, a + 144, b + 185, c + 228, d + 17, a + 64, b + 113, c + 164, d + 217, a + 16, b + 73, c + 132, d + 193]
def kx (n : Int) (k : Nat) : UInt8 := UInt32.toUInt8 (shr32 (UInt32.ofNat (Int.toNat (n % 4294967296))) k)
def keyF (n : Int) : List UInt8 := kbytes (kx n 0) (kx n 8) (kx n 16) (kx n 24)
noncomputable def keyS : Int → List UInt8 := (sealed keyF).val
theorem keyS_eq (n : Int) : keyS n = keyF n := by rw [keyS, (sealed keyF).property]
theorem length_keyS (n : Int) : (keyS n).length = 32 := by rw [keyS_eq]; rfl
def namedF (n : Int) : List UInt8 := ([97 + UInt8.ofNat (Int.toNat ((n % 12) % 256)), 122] : List UInt8).take (1 + n % 2).toNat
noncomputable def namedS : Int → List UInt8 := (sealed namedF).val
theorem namedS_eq (n : Int) : namedS n = namedF n := by rw [namedS, (sealed namedF).property]
end Go.Pin
