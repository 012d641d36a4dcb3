/- BLAKE2s, as functions of lists. -/
import Derived.Test.YtdipeoacmapehaaDoorNums
import Derived.KernelRfl

set_option linter.unusedSimpArgs false
set_option linter.unusedVariables false
namespace Go.Bla
open Go Go.V Go.Cha

def iv : List UInt32 := [0x6a09e667, 0xbb67ae85, 0x3c6ef372, 0xa54ff53a, 0x510e527f, 0x9b05688c, 0x1f83d9ab, 0x5be0cd19]
def ordersL : List Int := [0, 1, 2, 3, 4, 5, 6, 7, 8, 9, 10, 11, 12, 13, 14, 15, 14, 10, 4, 8, 9, 15, 13, 6, 1, 12, 0, 2, 11, 7, 5, 3, 11, 8, 12, 0, 5, 2, 15, 13, 10, 14, 3, 6, 7, 1, 9, 4, 7, 9, 3, 1, 13, 12, 11, 14, 2, 6, 5, 10, 4, 0, 15, 8, 9, 0, 5, 7, 2, 4, 10, 15, 14, 1, 11, 12, 6, 8, 3, 13, 2, 12, 6, 10, 0, 11, 8, 3, 4, 13, 7, 5, 15, 14, 1, 9, 12, 5, 1, 15, 14, 13, 4, 10, 0, 7, 6, 3, 9, 2, 8, 11, 13, 11, 7, 14, 12, 1, 3, 9, 5, 0, 15, 4, 8, 6, 2, 10, 6, 15, 14, 9, 11, 3, 0, 8, 12, 2, 13, 7, 1, 4, 10, 5, 10, 2, 8, 4, 7, 6, 1, 5, 15, 11, 9, 14, 3, 12, 13, 0]
def rowB (n : Nat) : List Int := (ordersL.drop (n * 16)).take 16
def turnB (a b d n m : Nat) (x : UInt32) (l : List UInt32) : List UInt32 :=
  (l.set a (l.getD a 0 + (l.getD b 0 + x))).set d (rotS ((l.set a (l.getD a 0 + (l.getD b 0 + x))).getD d 0 ^^^ (l.set a (l.getD a 0 + (l.getD b 0 + x))).getD a 0) n m)
def turnC (c d b n m : Nat) (l : List UInt32) : List UInt32 :=
  (l.set c (l.getD c 0 + l.getD d 0)).set b (rotS ((l.set c (l.getD c 0 + l.getD d 0)).getD b 0 ^^^ (l.set c (l.getD c 0 + l.getD d 0)).getD c 0) n m)
def mixB (a b c d : Nat) (x y : UInt32) (l : List UInt32) : List UInt32 := turnC c d b 25 7 (turnB a b d 24 8 y (turnC c d b 20 12 (turnB a b d 16 16 x l)))
def pickB (m : List UInt32) (n i : Nat) : UInt32 := m.getD ((rowB n).getD i 0).toNat 0
def roundB (m : List UInt32) (n : Nat) (l : List UInt32) : List UInt32 :=
  mixB 3 4 9 14 (pickB m n 14) (pickB m n 15) (mixB 2 7 8 13 (pickB m n 12) (pickB m n 13) (mixB 1 6 11 12 (pickB m n 10) (pickB m n 11) (mixB 0 5 10 15 (pickB m n 8) (pickB m n 9)
    (mixB 3 7 11 15 (pickB m n 6) (pickB m n 7) (mixB 2 6 10 14 (pickB m n 4) (pickB m n 5) (mixB 1 5 9 13 (pickB m n 2) (pickB m n 3) (mixB 0 4 8 12 (pickB m n 0) (pickB m n 1) l)))))))
def roundsF (m v : List UInt32) : Nat → List UInt32
  | 0 => v
  | n + 1 => roundB m n (roundsF m v n)
noncomputable def roundsB : List UInt32 → List UInt32 → Nat → List UInt32 := (sealed roundsF).val
theorem roundsB_eq (m v : List UInt32) (n : Nat) : roundsB m v n = roundsF m v n := by rw [roundsB, (sealed roundsF).property]
/-- Four bytes as a word. -/
def wordB (b : List UInt8) (i : Nat) : UInt32 := shl32 (shl32 (shl32 (shl32 0 8 ||| (b.getD (4 * i + 3) 0).toUInt32) 8 ||| (b.getD (4 * i + 2) 0).toUInt32) 8 ||| (b.getD (4 * i + 1) 0).toUInt32) 8 ||| (b.getD (4 * i) 0).toUInt32
def wordsF (b : List UInt8) (n : Nat) : List UInt32 := (List.range 16).map fun i => if i < n then wordB b i else 0
noncomputable def wordsB : List UInt8 → Nat → List UInt32 := (sealed wordsF).val
theorem wordsB_eq (b : List UInt8) (n : Nat) : wordsB b n = wordsF b n := by rw [wordsB, (sealed wordsF).property]
/-- One word of the sum, behind the rounds. -/
def stepO (v : List UInt32) (i : Nat) (l : List UInt32) : List UInt32 := l.set i (l.getD i 0 ^^^ (v.getD i 0 ^^^ v.getD (8 + i) 0))
def outB (h v : List UInt32) : List UInt32 := stepO v 7 (stepO v 6 (stepO v 5 (stepO v 4 (stepO v 3 (stepO v 2 (stepO v 1 (stepO v 0 h)))))))
def startB (h : List UInt32) (len : Int) (last : Bool) : List UInt32 :=
  [h.getD 0 0, h.getD 1 0, h.getD 2 0, h.getD 3 0, h.getD 4 0, h.getD 5 0, h.getD 6 0, h.getD 7 0, 0x6a09e667, 0xbb67ae85, 0x3c6ef372, 0xa54ff53a,
   0x510e527f ^^^ UInt32.ofNat (Int.toNat (len % 4294967296)), 0x9b05688c ^^^ UInt32.ofNat (Int.toNat (Int.fdiv len 4294967296 % 4294967296)), cond last (~~~ 0x1f83d9ab) 0x1f83d9ab, 0x5be0cd19]
/-- A block squeezed in. -/
noncomputable def squeezeF (h : List UInt32) (held : List UInt8) (len : Int) (last : Bool) : List UInt32 := outB h (roundsF (wordsF held 16) (startB h len last) 10)
noncomputable def squeezeS : List UInt32 → List UInt8 → Int → Bool → List UInt32 := (sealed squeezeF).val
theorem squeezeS_eq (h : List UInt32) (held : List UInt8) (len : Int) (last : Bool) : squeezeS h held len last = squeezeF h held len last := by rw [squeezeS, (sealed squeezeF).property]
def cB (n i : Nat) : Bool := inB ((rowB n).getD i 0) 16
theorem cB_all : ((List.range 10).all fun r => (List.range 16).all fun i => cB r i) = true := by kernel_rfl
theorem cB_ok {r i : Nat} (hr : r < 10) (hi : i < 16) : cB r i = true := by
  have h := cB_all
  rw [List.all_eq_true] at h
  have h2 := h r (List.mem_range.2 hr)
  rw [List.all_eq_true] at h2
  exact h2 i (List.mem_range.2 hi)
theorem words_zero (b : List UInt8) : wordsB b 0 = [0, 0, 0, 0, 0, 0, 0, 0, 0, 0, 0, 0, 0, 0, 0, 0] := by
  rw [wordsB_eq]; unfold wordsF
  simp only [Nat.not_lt_zero, if_false]; rfl
theorem words_get (b : List UInt8) {n i : Nat} (h : n ≤ i) : (wordsB b n).getD i 0 = 0 := by
  rw [wordsB_eq]; unfold wordsF
  rw [List.getD_eq_getElem?_getD, List.getElem?_map]
  rcases Nat.lt_or_ge i 16 with hi | hi
  · rw [List.getElem?_range hi]
    simp only [Option.map_some, Option.getD_some]
    rw [if_neg (by omega)]
  · rw [List.getElem?_eq_none (by simpa using hi)]; rfl
theorem length_wordsB (b : List UInt8) (n : Nat) : (wordsB b n).length = 16 := by rw [wordsB_eq]; simp [wordsF]
theorem words_succ (b : List UInt8) (n : Nat) : (wordsB b n).set n (wordB b n) = wordsB b (n + 1) := by
  rw [wordsB_eq, wordsB_eq]; unfold wordsF
  apply List.ext_getElem?
  intro i
  rw [List.getElem?_set, List.getElem?_map, List.getElem?_map]
  by_cases e : n = i
  · subst e
    rw [if_pos rfl]
    rcases Nat.lt_or_ge n 16 with hi | hi
    · rw [if_pos (by simpa using hi), List.getElem?_range hi]
      simp
    · rw [if_neg (by simpa using hi), List.getElem?_eq_none (by simpa using hi)]; rfl
  · rw [if_neg e]
    rcases Nat.lt_or_ge i 16 with hi | hi
    · rw [List.getElem?_range hi]
      simp only [Option.map_some]
      congr 1
      by_cases h : i < n
      · rw [if_pos h, if_pos (by omega)]
      · rw [if_neg h, if_neg (by omega)]
    · rw [List.getElem?_eq_none (by simpa using hi)]; rfl
theorem rounds_zero (m v : List UInt32) : roundsB m v 0 = v := by rw [roundsB_eq]; rfl
theorem rounds_succ (m v : List UInt32) (n : Nat) : roundB m n (roundsB m v n) = roundsB m v (n + 1) := by rw [roundsB_eq, roundsB_eq]; rfl
theorem getD_set_same {l : List UInt32} {i : Nat} {x : UInt32} (h : i < l.length) : (l.set i x).getD i 0 = x := by
  rw [List.getD_eq_getElem?_getD, List.getElem?_set, if_pos rfl, if_pos h]; rfl
end Go.Bla
