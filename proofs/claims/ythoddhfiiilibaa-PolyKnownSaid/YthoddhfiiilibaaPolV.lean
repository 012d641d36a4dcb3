/- Sums of bytes by a key, in a form that can be reckoned. -/
import Derived.Test.YthoddhfiiilibaaNums

set_option linter.unusedSimpArgs false
set_option linter.unusedVariables false
namespace Go.Pol
open Go Go.V Go.Fld
def rowsR (h : List UInt8) : List UInt64 := (List.set (List.set (List.set [0, 0, 0] 0 (halfF (List.take 8 h))) 1 (halfF (List.drop 8 h))) 2 1)
def partR (h : List UInt8) (n : Nat) : Nat :=
  if n < 16 then v3F (List.set (List.set (rowsR h) 2 0) (n / 8) ((List.getD (List.set (rowsR h) 2 0) (n / 8) 0) ||| (shl64 1 (8 * (n % 8))))) else v3F (rowsR h)
theorem rowsR_eq (h : List UInt8) : rowsF h = rowsR h := by unfold rowsF rowsR; rw [halfS_eq, halfS_eq]
theorem partR_eq (h : List UInt8) (n : Nat) : part h n = partR h n := by
  rw [part_eq]; unfold partF partR
  simp only [rowsR_eq, v3_eq]
def soakR (r : Nat) (a : Nat) (h : List UInt8) (n : Nat) : Nat := (a + partR h n) * r % q
def stepR (r : Nat) (s : PS) (c : UInt8) : PS :=
  if s.n = 15 then ⟨soakR r s.a (s.h.set s.n c) 16, zeros, 0⟩ else ⟨s.a, s.h.set s.n c, s.n + 1⟩
theorem stepR_eq (r : Nat) : stepP r = stepR r := by
  funext s c
  unfold stepP stepR soakN soakR
  simp only [partR_eq]
def addR (r : Nat) (s : PS) (b : List UInt8) : PS := b.foldl (stepR r) s
theorem addR_eq (r : Nat) (s : PS) (b : List UInt8) : addP r s b = addR r s b := by unfold addP addR; rw [stepR_eq]
end Go.Pol
