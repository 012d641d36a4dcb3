/- Patterns of handshakes: which there are. -/
import Derived.Test.YtcnnogimaikicaaDoorPat
import Derived.Test.YtcnnogimaikicaaDoorWT

set_option linter.unusedSimpArgs false
set_option linter.unusedVariables false
namespace Go.Pat
open Go Go.V
def baseP (s : List UInt8) : Pat :=
  if s = [78, 78] then ⟨s, false, [], [], [], [[1], [1, 3]]⟩
  else if s = [78, 75] then ⟨s, false, [], [], [2], [[1, 4], [1, 3]]⟩
  else if s = [88, 88] then ⟨s, false, [], [], [], [[1], [1, 3, 2, 4], [2, 5]]⟩
  else if s = [73, 75] then ⟨s, false, [], [], [2], [[1, 4, 2, 6], [1, 3, 5]]⟩
  else if s = [88, 75] then ⟨s, false, [], [], [2], [[1, 4], [1, 3], [2, 5]]⟩
  else if s = [75, 75] then ⟨s, false, [], [2], [2], [[1, 4, 6], [1, 3, 5]]⟩
  else ⟨s, true, [], [1], [], [[1, 3, 2, 4], [2, 5]]⟩
def putP (t : List (List Int)) (n : Int) : List (List Int) :=
  if n = 0 then t.set 0 (7 :: t.getD 0 []) else t.set (n.toNat - 1) (t.getD (n.toNat - 1) [] ++ [7])
/-- A base pattern with psks at some places. -/
def withP (s : List UInt8) (l : List Int) : Pat := { baseP s with psks := l, turns := l.foldl putP (baseP s).turns }
/-- Places of psks: a rising list, by the bits of a number. -/
def plF (k : Nat) : Nat → List Int
  | 0 => bif k % 2 == 1 then [0] else []
  | n + 1 => plF k n ++ bif (k / 2 ^ (n + 1)) % 2 == 1 then [((n + 1 : Nat) : Int)] else []
def plL (m k : Int) : List Int := plF k.toNat m.toNat
def fallN : List UInt8 := [88, 88, 102, 97, 108, 108, 98, 97, 99, 107]
/-- All of them. -/
def allW : List (List UInt8 × List Int) :=
  ([[78, 78], [78, 75], [73, 75], [75, 75]].flatMap fun s => (List.range 8).map fun k => (s, plF k 2)) ++ ([[88, 88], [88, 75]].flatMap fun s => (List.range 16).map fun k => (s, plF k 3)) ++ [(fallN, [])]
def isW (s : List UInt8) (l : List Int) : Bool := decide ((s, l) ∈ allW)
def allP : List Pat := allW.map fun x => withP x.1 x.2
def isP (p : Pat) : Bool := decide (p ∈ allP)
theorem isP_iff {p : Pat} : isP p = true ↔ ∃ s l, isW s l = true ∧ withP s l = p := by
  simp only [isP, isW, decide_eq_true_eq, allP, List.mem_map]
  constructor
  · rintro ⟨⟨s, l⟩, h, rfl⟩; exact ⟨s, l, h, rfl⟩
  · rintro ⟨s, l, h, rfl⟩; exact ⟨(s, l), h, rfl⟩

/-- Is it this pattern, and no error? -/
def qWith (p : Pat) : AV → Bool
  | .tup [.agg l, .int .i64 e] => okPat (flL l) && (decide (rdPat (flL l) = p) && e == 0)
  | _ => false
theorem qWith_le {p : Pat} {x : AV} (h : qWith p x = true) : leV x (.tup [patV p, .int .i64 0]) := by
  unfold qWith at h
  split at h
  · rename_i l e
    simp only [Bool.and_eq_true, decide_eq_true_eq, beq_iff_eq] at h
    obtain ⟨h1, h2, rfl⟩ := h
    refine leV_tup (leRV_cons ?_ (leRV_cons (leV.refl _) leRV_nil))
    rw [← h2]
    exact arg_pat h1
  · cases h
/-- Is it no error? -/
def qNil : AV → Bool
  | .int .i64 e => e == 0
  | _ => false
theorem qNil_le {x : AV} (h : qNil x = true) : leV x (.int .i64 0) := by
  unfold qNil at h
  split at h
  · simp only [beq_iff_eq] at h
    subst h
    exact leV.refl _
  · cases h
end Go.Pat
