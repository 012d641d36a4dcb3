import Derived.Test.YtcnnogimaikicaaDoorTrdH
set_option linter.unusedSimpArgs false
set_option linter.unusedVariables false
namespace Go.Proofs.YtcnnogimaikicaaDoor
open Go Go.V Go.Pat
/-- Which base pattern it is, is told ahead. -/
theorem pick_lit (n m k : Int) (h1 : 0 < m) (h2 : m ≤ 1000) (h : n % m = k) : HCall Tryd.E 8 [.int .i64 n, .int .i64 m] (.ret (.int .i64 k) []) := by
  subst h
  exact upicked_c n m h1 (by omega)
noncomputable def pickK (T : Ctr Tryd.E) (k : Int) : Ctr Tryd.E := T.add 8 (fun
    | [.int .i64 n, .int .i64 m] => bif m == 6 then some (n % m == k, .ret (.int .i64 k) []) else some (decide (0 < m) && decide (m ≤ 64), altN (n % m) m.toNat 0)
    | _ => none) (by
      intro args pre out h hp
      split at h
      · rename_i n m
        cases hb : m == 6 with
        | true =>
          rw [hb] at h
          simp only [cond_true, Option.some.injEq, Prod.mk.injEq] at h
          obtain ⟨rfl, rfl⟩ := h
          obtain rfl : m = 6 := by simpa using hb
          exact pick_lit _ _ _ (by decide) (by decide) (by simpa using hp)
        | false =>
          rw [hb] at h
          simp only [cond_false, Option.some.injEq, Prod.mk.injEq] at h
          obtain ⟨rfl, rfl⟩ := h
          simp only [Bool.and_eq_true, decide_eq_true_eq] at hp
          exact pick_alt _ _ hp.1 hp.2
      · simp at h)
end Go.Proofs.YtcnnogimaikicaaDoor
