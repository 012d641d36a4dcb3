/- Names of patterns of handshakes. -/
import Derived.Test.YtcnnogimaikicaaDoorPatM
import Derived.KernelRfl

set_option linter.unusedSimpArgs false
set_option linter.unusedVariables false
namespace Go.Pat
open Go Go.V
set_option maxRecDepth 100000
def noiseN : List UInt8 := [78, 111, 105, 115, 101, 95]
def tailN : List UInt8 := [95, 50, 53, 53, 49, 57, 95, 67, 104, 97, 67, 104, 97, 80, 111, 108, 121, 95, 66, 76, 65, 75, 69, 50, 115]
def pskN (n : Int) : List UInt8 := [112, 115, 107, UInt8.ofNat (48 + n).toNat]
def joinN : List (List UInt8) → List UInt8
  | [] => []
  | [a] => a
  | a :: l => a ++ 43 :: joinN l
/-- The name of a protocol. -/
def showP (p : Pat) : List UInt8 := noiseN ++ p.base ++ joinN (p.psks.map pskN) ++ tailN
def tabS : List (AV × List UInt8) := tabA.zip (tabP.map showP)
def qShow (s : List UInt8) : AV → Bool
  | .tup [.str t, .int .i64 e] => decide (t = s) && e == 0
  | _ => false
theorem qShow_le {s : List UInt8} {x : AV} (h : qShow s x = true) : leV x (.tup [.str s, .int .i64 0]) := by
  unfold qShow at h
  split at h
  · simp only [Bool.and_eq_true, decide_eq_true_eq, beq_iff_eq] at h
    obtain ⟨rfl, rfl⟩ := h
    exact leV.refl _
  · cases h
theorem tabS_mem {p : Pat} (h : p ∈ tabP) : (patL p, showP p) ∈ tabS := by
  unfold tabS
  rw [← tabA_eq, List.zip_map']
  exact List.mem_map_of_mem (f := fun q => (patL q, showP q)) h
/-- Patterns by their names. -/
def tabN : List (List UInt8 × Pat) := tabP.map fun p => (showP p, p)
theorem tabN_mem {p : Pat} (h : p ∈ tabP) : (showP p, p) ∈ tabN := List.mem_map_of_mem (f := fun q => (showP q, q)) h
/-- The pattern of a name. -/
def findN (s : List UInt8) : List (List UInt8 × AV) → Option Out
  | [] => none
  | a :: r => bif a.1 == s then some (.ret (.tup [a.2, .int .i64 0]) []) else findN s r
def tabNA : List (List UInt8 × AV) := (tabP.map showP).zip tabA
theorem tabNA_eq : tabNA = tabP.map fun p => (showP p, patL p) := by
  unfold tabNA
  rw [← tabA_eq, List.zip_map']
theorem findN_some {s : List UInt8} : ∀ {l : List Pat} {o : Out}, findN s (l.map fun p => (showP p, patL p)) = some o → ∃ p ∈ l, showP p = s ∧ o = .ret (.tup [patL p, .int .i64 0]) []
  | p :: l, o, h => by
    rw [List.map_cons, findN] at h
    cases hb : showP p == s with
    | true =>
      rw [hb] at h
      simp only [cond_true, Option.some.injEq] at h
      exact ⟨p, by simp, by simpa using hb, h.symm⟩
    | false =>
      rw [hb] at h
      obtain ⟨q, h1, h2⟩ := findN_some (l := l) h
      exact ⟨q, by simp [h1], h2⟩
end Go.Pat
