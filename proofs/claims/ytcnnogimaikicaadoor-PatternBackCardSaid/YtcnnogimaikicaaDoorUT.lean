/- The abstract layer (third state): lemmas of use in many places. -/
import Derived.Test.YtcnnogimaikicaaDoorWK
import Derived.Test.YtcnnogimaikicaaDoorWU
import Derived.Test.YtcnnogimaikicaaDoorWV
import Derived.Test.YtcnnogimaikicaaDoorWY

set_option linter.unusedSimpArgs false
set_option linter.unusedVariables false
namespace Go.V
open Go
noncomputable section
section
variable {P : Program} {G : Env P}
/-- What is known of calls, of either. -/
def Ctr.or (T T' : Ctr G) : Ctr G := ⟨fun f args => match T.C f args with
    | some r => some r
    | none => T'.C f args, fun f args pre out h hp => by
    cases h1 : T.C f args with
    | some r => rw [h1] at h; simp only [Option.some.injEq] at h; subst h; exact T.ok f args pre out h1 hp
    | none => rw [h1] at h; exact T'.ok f args pre out h hp⟩
end
section
variable {P : Program} {G : Env P}
/-- Rows of nothing. -/
def noRows : Nat → List AV := fun _ => []
/-- What is known of calls, where the first argument is a slice of nothing, too. -/
def Ctr.nil1 (T : Ctr G) (fs : List Nat) (k : Nat) : Ctr G := ⟨fun f args => match args with
    | .vec8 true [] :: rest => bif fs.contains f then T.C f (.vecr false k 0 noRows :: rest) else T.C f args
    | _ => T.C f args, fun f args pre out h hp => by
    split at h
    · rename_i rest
      cases hb : fs.contains f with
      | false => rw [hb] at h; exact T.ok f _ pre out h hp
      | true =>
        rw [hb] at h
        rcases T.ok f _ pre out h hp with hc | ⟨_, _, _, h1, _⟩
        case inr => simp at h1
        refine .inl (HCall.args hc ?_ fun ρ I w vs r => ?_)
        · have := hc.pa
          simpa [pureL, pureA] using this
        · obtain ⟨x, xs, rfl, k1, k2⟩ := RV_cons.1 r
          exact RV_cons.2 ⟨x, xs, rfl, leV_nil rfl _ _ _ _ k1, k2⟩
    · exact T.ok f _ pre out h hp⟩
end
/-- Is it so? -/
def yesF (p : Prop) : Bool := @decide p (Classical.propDecidable p)
def yes : Prop → Bool := (sealed yesF).val
theorem yes_iff {p : Prop} : yes p = true ↔ p := by
  rw [yes, (sealed yesF).property]; unfold yesF; exact @decide_eq_true_iff p (Classical.propDecidable p)
theorem ucutOk {α : Type} (l : List α) (m : Int) (hm : 0 ≤ m) : sliceOk none (some (cond false (max (l.length : Int) m) (min (l.length : Int) m))) l.length = true := by
  show (nnB _ && leB (Int.toNat _) _) = true
  rw [cond_false, nnB_iff.2 (by omega), leB_of (by omega)]; rfl
theorem ucutL {α : Type} (l : List α) (m : Int) (hm : 0 ≤ m) : sliceL none (some (cond false (max (l.length : Int) m) (min (l.length : Int) m))) l = l.take m.toNat := by
  show l.take (Int.toNat _) = _
  rw [cond_false]
  rcases Nat.le_total l.length m.toNat with h | h
  · rw [List.take_of_length_le h, List.take_of_length_le (by omega)]
  · congr 1; omega
theorem usomeOk (n : Nat) (m : Int) (hm : 0 ≤ m) : sliceOk none (some (cond false (max (n : Int) m) (min (n : Int) m))) n = true := by
  have := ucutOk (List.replicate n ()) m hm
  rwa [List.length_replicate] at this
theorem usomeN (n : Nat) (m : Int) (hm : 0 ≤ m) : hiN n (some (cond false (max (n : Int) m) (min (n : Int) m))) - 0 = min n m.toNat := by
  show Int.toNat _ - 0 = _
  rw [cond_false]; omega
theorem nnB_nat (n : Nat) : nnB (n : Int) = true := nnB_iff.2 (by omega)
theorem all8 (l : List UInt8) : List.take l.length (List.drop 0 l) = l := by rw [List.drop_zero, List.take_length]
end
end Go.V
