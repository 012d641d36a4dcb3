import Derived.Test.YtdipeoacmapehaaDoorGBlaG
set_option linter.unusedSimpArgs false
set_option linter.unusedVariables false
namespace Go.Proofs.YtdipeoacmapehaaDoor
open Go Go.V Go.Cha Go.Bla
set_option maxRecDepth 100000
theorem zero64_eq : zero64 = List.replicate 64 0 := rfl
noncomputable def sumAbc : List UInt8 := sumS [97, 98, 99]
theorem sqF_eq (h : List UInt32) (held : List UInt8) (len : Int) (last : Bool) : squeezeS h held len last = squeezeF h held len last := squeezeS_eq ..
theorem step1 (s : BS) (c : UInt8) (h : s.n < 64) : stepB s c = ⟨s.h, s.held.set s.n c, s.n + 1, s.len + 1⟩ := by unfold stepB; rw [if_neg (by omega)]
def abcS : BS := ⟨iv.set 0 1795745351, ((zero64.set 0 97).set 1 98).set 2 99, 3, 3⟩
theorem add_abc : addB startS [97, 98, 99] = abcS := by
  rw [addB_eq]
  show stepB (stepB (stepB startS 97) 98) 99 = _
  rw [step1 startS 97 (by decide), step1 _ 98 (by decide), step1 _ 99 (by decide)]
  rfl
theorem sum_abc : (sumS [97, 98, 99]).take 4 = [80, 140, 94, 140] := by
  rw [sumS_eq]; unfold sumF
  rw [add_abc, endB_eq]; unfold Bla.endF
  rw [squeezeS_eq]; kernel_rfl
theorem sum_nil : (sumS []).take 4 = [105, 33, 122, 48] := by
  rw [sumS_eq]; unfold sumF
  rw [addB_nil, endB_eq]; unfold Bla.endF
  rw [squeezeS_eq]; kernel_rfl
theorem btells_c : HCall Tryd.E 10 [] (.ret (.bool true) []) := by
  refine HCall.of_walk (R := RS) (T := B4) (fun _ _ => .unroll 5) 5 rfl rfl ?_
  rw [btells_eq]
  have e := sum_abc
  refine ⟨?_, rfl⟩
  show AV.bool ((((List.getD (sumS [97, 98, 99]) 0 0).toNat : Nat) : Int) == 80) = AV.bool true
  rw [← getD_take (n := 4) (by decide), e]; rfl
noncomputable def B5 : Ctr Tryd.E := B4.add 10 (fun
    | [] => some (true, .ret (.bool true) [])
    | _ => none) (by
      intro args pre out h hp
      split at h
      · simp only [Option.some.injEq, Prod.mk.injEq] at h
        obtain ⟨rfl, rfl⟩ := h
        exact btells_c
      · simp at h)
/-- Where it is known which one is picked. -/
noncomputable def BK (k : Int) (hk : k = 0 ∨ k = 1) : Ctr Tryd.E := B5.add 6 (fun
    | [.int .i64 n, .int .i64 m] => some (decide (m = 2) && decide (n % 2 = k), .ret (.int .i64 k) [])
    | _ => none) (by
      intro args pre out h hp
      split at h
      · simp only [Option.some.injEq, Prod.mk.injEq] at h
        obtain ⟨rfl, rfl⟩ := h
        simp only [Bool.and_eq_true, decide_eq_true_eq] at hp
        obtain ⟨rfl, rfl⟩ := hp
        exact picked_c _ _ (by decide) (by decide)
      · simp at h)
end Go.Proofs.YtdipeoacmapehaaDoor
