/- Sums of bytes that come piece by piece: the state, a step, the end. -/
import Derived.Test.YtdipeoacmapehaaDoorBla

set_option linter.unusedSimpArgs false
set_option linter.unusedVariables false
namespace Go.Bla
open Go Go.V Go.Cha

def zero64 : List UInt8 := List.replicate 64 0
structure BS where
  h : List UInt32
  held : List UInt8
  n : Nat
  len : Nat
noncomputable def stepB (s : BS) (c : UInt8) : BS :=
  if s.n = 64 then ⟨squeezeS s.h s.held (s.len : Int) false, zero64.set 0 c, 1, s.len + 1⟩ else ⟨s.h, s.held.set s.n c, s.n + 1, s.len + 1⟩
noncomputable def addF (s : BS) (b : List UInt8) : BS := b.foldl stepB s
noncomputable def addB : BS → List UInt8 → BS := (sealed addF).val
theorem addB_eq (s : BS) (b : List UInt8) : addB s b = addF s b := by rw [addB, (sealed addF).property]
def okP (held : List UInt8) (n len : Int) : Prop := 0 ≤ n ∧ n ≤ 64 ∧ n ≤ len ∧ len ≤ 1073741824 ∧ (len - n) % 64 = 0 ∧ (n = 0 → len = 0) ∧ ∀ i, n.toNat ≤ i → held.getD i 0 = 0
noncomputable def okF (held : List UInt8) (n len : Int) : Bool := @decide (okP held n len) (Classical.propDecidable _)
noncomputable def okS : List UInt8 → Int → Int → Bool := (sealed okF).val
theorem okS_iff {held : List UInt8} {n len : Int} : okS held n len = true ↔ okP held n len := by
  rw [okS, (sealed okF).property]; exact @decide_eq_true_iff _ (Classical.propDecidable _)
structure BS.ok (s : BS) : Prop where
  hh : s.held.length = 64
  p : okP s.held (s.n : Int) (s.len : Int)
theorem BS.ok.s {s : BS} (o : s.ok) : okS s.held (s.n : Int) (s.len : Int) = true := okS_iff.2 o.p
theorem BS.ok.n {s : BS} (o : s.ok) : s.n ≤ 64 := by have := o.p.2.1; omega
theorem BS.ok.l {s : BS} (o : s.ok) : s.len ≤ 1073741824 := by have := o.p.2.2.2.1; omega
theorem zero64_getD (i : Nat) : zero64.getD i 0 = 0 := by
  unfold zero64
  rw [List.getD_eq_getElem?_getD, List.getElem?_replicate]
  split <;> rfl
theorem getD_set_ne {l : List UInt8} {i j : Nat} {x : UInt8} (h : i ≠ j) : (l.set i x).getD j 0 = l.getD j 0 := by
  rw [List.getD_eq_getElem?_getD, List.getD_eq_getElem?_getD, List.getElem?_set_ne h]
theorem stepB_len (s : BS) (c : UInt8) : (stepB s c).len = s.len + 1 := by unfold stepB; split <;> rfl
theorem stepB_ok {s : BS} (o : s.ok) (hl : s.len < 1073741824) (c : UInt8) : (stepB s c).ok := by
  obtain ⟨p1, p2, p3, p4, p5, p6, p7⟩ := o.p
  unfold stepB
  split
  · rename_i h
    refine ⟨by simp [zero64], by simp, by simp, ?_, ?_, ?_, by simp, fun i hi => ?_⟩
    · simp only []; omega
    · simp only []; omega
    · simp only []; omega
    · simp only [] at hi ⊢
      rw [getD_set_ne (by omega), zero64_getD]
  · rename_i h
    refine ⟨by simpa using o.hh, ?_, ?_, ?_, ?_, ?_, ?_, fun i hi => ?_⟩
    · simp only []; omega
    · simp only []; omega
    · simp only []; omega
    · simp only []; omega
    · simp only []; omega
    · simp only []; omega
    · simp only [] at hi ⊢
      rw [getD_set_ne (by omega)]
      exact p7 i (by omega)
theorem addF_ok : ∀ {b : List UInt8} {s : BS}, s.ok → s.len + b.length ≤ 1073741824 → (addF s b).ok ∧ (addF s b).len = s.len + b.length
  | [], s, o, _ => ⟨o, rfl⟩
  | c :: b, s, o, h => by
    rw [List.length_cons] at h
    have h1 := stepB_ok o (by omega) c
    have h2 := addF_ok (b := b) h1 (by rw [stepB_len]; omega)
    rw [stepB_len] at h2
    rw [List.length_cons]
    exact ⟨h2.1, by rw [show s.len + (b.length + 1) = s.len + 1 + b.length by omega]; exact h2.2⟩
theorem addB_ok {b : List UInt8} {s : BS} (o : s.ok) (h : s.len + b.length ≤ 1073741824) : (addB s b).ok ∧ (addB s b).len = s.len + b.length := by rw [addB_eq]; exact addF_ok o h
theorem addB_append (s : BS) (b c : List UInt8) : addB s (b ++ c) = addB (addB s b) c := by
  rw [addB_eq, addB_eq, addB_eq]; exact List.foldl_append
theorem addB_nil (s : BS) : addB s [] = s := by rw [addB_eq]; rfl
theorem take_addB {s : BS} {b : List UInt8} {i : Nat} (h : i < b.length) : addB s (b.take (i + 1)) = stepB (addB s (b.take i)) (b.getD i 0) := by
  have : b.take (i + 1) = b.take i ++ [b.getD i 0] := by
    rw [List.take_succ_eq_append_getElem h, List.getD_eq_getElem?_getD, List.getElem?_eq_getElem h]; rfl
  rw [this, addB_append]
  generalize addB s (b.take i) = t
  rw [addB_eq]; rfl
def startS : BS := ⟨iv.set 0 1795745351, zero64, 0, 0⟩
theorem startS_ok : startS.ok := ⟨by simp [startS, zero64], by decide, by decide, by decide, by decide, by decide, fun _ => rfl, fun i _ => zero64_getD i⟩
/-- The bytes of the words. -/
def bytesB (h : List UInt32) : List UInt8 := (List.range 32).map fun i => (shr32 (h.getD (i / 4) 0) (8 * (i % 4))).toUInt8
noncomputable def endF (s : BS) : List UInt8 := bytesB (squeezeS s.h s.held (s.len : Int) true)
noncomputable def endB : BS → List UInt8 := (sealed endF).val
theorem endB_eq (s : BS) : endB s = endF s := by rw [endB, (sealed endF).property]
/-- The sum of bytes. -/
noncomputable def sumF (b : List UInt8) : List UInt8 := endB (addB startS b)
noncomputable def sumS : List UInt8 → List UInt8 := (sealed sumF).val
theorem sumS_eq (b : List UInt8) : sumS b = sumF b := by rw [sumS, (sealed sumF).property]
theorem length_endB (s : BS) : (endB s).length = 32 := by rw [endB_eq]; simp [endF, bytesB]
theorem length_sumS (b : List UInt8) : (sumS b).length = 32 := by rw [sumS_eq]; exact length_endB _
end Go.Bla
