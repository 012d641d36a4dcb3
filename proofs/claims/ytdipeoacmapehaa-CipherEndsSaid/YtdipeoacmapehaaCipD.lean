import Derived.Test.YtdipeoacmapehaaGCipC
set_option linter.unusedSimpArgs false
set_option linter.unusedVariables false
namespace Go.Proofs.Ytdipeoacmapehaa
open Go Go.V Go.Fld Go.Pol Go.Cha
set_option maxRecDepth 100000
theorem ccutOk {α : Type} (l : List α) (m : Int) (hm : 0 ≤ m) : sliceOk none (some (cond false (max (l.length : Int) m) (min (l.length : Int) m))) l.length = true := by
  show (nnB _ && leB (Int.toNat _) _) = true
  rw [cond_false, nnB_iff.2 (by omega), leB_of (by omega)]; rfl
theorem ccutL {α : Type} (l : List α) (m : Int) (hm : 0 ≤ m) : sliceL none (some (cond false (max (l.length : Int) m) (min (l.length : Int) m))) l = l.take m.toNat := by
  show l.take (Int.toNat _) = _
  rw [cond_false]
  rcases Nat.le_total l.length m.toNat with h | h
  · rw [List.take_of_length_le h, List.take_of_length_le (by omega)]
  · congr 1; omega
theorem nil0 : nilC [0, 0, 0, 0, 0, 0, 0, 0, 0, 0, 0, 0, 0, 0, 0, 0, 0, 0, 0, 0, 0, 0, 0, 0, 0, 0, 0, 0, 0, 0, 0, 0] 0 = true := by rw [nilC_eq]; rfl
theorem nil1 : nilC [0, 0, 0, 0, 0, 0, 0, 0, 0, 0, 0, 0, 0, 0, 0, 0, 0, 0, 0, 0, 0, 0, 0, 0, 0, 0, 0, 0, 0, 0, 0, 0] 1 = false := by rw [nilC_eq]; rfl
theorem cipherEnds_c (x0 : List UInt8) (x1 : List UInt8) (_n1 : x1.length ≤ maxLen) (x2 : Int) (_n2 : -9223372036854775808 ≤ x2 ∧ x2 ≤ 9223372036854775807) :
    HCall Try.E 3 [.b8 32 x0, .vec8 false x1, .int .i64 x2] (.ret (.bool true) []) := by
  have hy : (x1.take 100).length ≤ 100 := by rw [List.length_take]; omega
  rcases (by omega : x2 % 2 = 0 ∨ x2 % 2 = 1) with h | h
  · refine HCall.of_walk (R := RS) (T := CK 0 (.inl rfl)) (fun _ _ => .unroll 17) 5 rfl rfl ?_
    rw [cends0_eq]
    dsimp only
    rw [ccutOk _ _ (by decide), ccutL _ _ (by decide), decide_eq_true h, show Int.toNat 100 = 100 from rfl, nil0, nil1, ltB_no (by omega), take_all8, beq_self_eq_true, leB_of (by omega)]
    exact ⟨rfl, rfl⟩
  · refine HCall.of_walk (R := RS) (T := CK 1 (.inr rfl)) (fun _ _ => .unroll 17) 5 rfl rfl ?_
    rw [cends1_eq]
    dsimp only
    rw [ccutOk _ _ (by decide), ccutL _ _ (by decide), decide_eq_true h, show Int.toNat 100 = 100 from rfl, nil0, nil1, ltB_no (by omega), take_all8, beq_self_eq_true, leB_of (by omega)]
    exact ⟨rfl, rfl⟩
end Go.Proofs.Ytdipeoacmapehaa
