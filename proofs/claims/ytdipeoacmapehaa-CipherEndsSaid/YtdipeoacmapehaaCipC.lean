import Derived.Test.YtdipeoacmapehaaCipB
import Derived.Test.YtdipeoacmapehaaWU
import Derived.Test.YtdipeoacmapehaaWR
set_option linter.unusedSimpArgs false
set_option linter.unusedVariables false
namespace Go.Proofs.Ytdipeoacmapehaa
open Go Go.V Go.Fld Go.Pol Go.Cha
/-- Where it is known which one is picked. -/
noncomputable def CK (k : Int) (hk : k = 0 ∨ k = 1) : Ctr Try.E := C2.add 6 (fun
    | [.int .i64 n, .int .i64 m] => some (decide (m = 2) && decide (n % 2 = k), .ret (.int .i64 k) [])
    | _ => none) (by
      intro args pre out h hp
      split at h
      · simp only [Option.some.injEq, Prod.mk.injEq] at h
        obtain ⟨rfl, rfl⟩ := h
        simp only [Bool.and_eq_true, decide_eq_true_eq] at hp
        obtain ⟨rfl, rfl⟩ := hp
        exact picked_c _ _ (by decide) (by decide)
      · simp at h)
end Go.Proofs.Ytdipeoacmapehaa
