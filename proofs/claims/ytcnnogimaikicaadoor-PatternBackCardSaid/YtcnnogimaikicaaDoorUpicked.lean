import Derived.Test.YtcnnogimaikicaaDoorEnv
import Derived.Test.YtcnnogimaikicaaDoorNums
import Derived.Test.YtcnnogimaikicaaDoorUT
set_option linter.unusedSimpArgs false
set_option linter.unusedVariables false
namespace Go.Proofs.YtcnnogimaikicaaDoor
open Go Go.V
set_option maxRecDepth 100000
theorem upicked_w (n m : Int) (K : AV → Heap → Prop) : walk Tryd.E (ROps.rows Tryd.E) (Ctr.nil Tryd.E).C (fun _ _ => .unroll 6) 3 8 [.int .i64 n, .int .i64 m] K =
    cnd (m != 0) (ite2 (ltI (n.tmod m) 0) (K (.int .i64 (wr .i64 (n.tmod m + m))) []) (K (.int .i64 (n.tmod m)) [])) := by kernel_rfl
theorem upicked_c (n m : Int) (h1 : 0 < m) (h2 : m ≤ 9223372036854775807) : HCall Tryd.E 8 [.int .i64 n, .int .i64 m] (.ret (.int .i64 (n % m)) []) := by
  refine HCall.of_walk (R := ROps.rows Tryd.E) (T := Ctr.nil Tryd.E) (fun _ _ => .unroll 6) 3 rfl rfl ?_
  rw [upicked_w, cnd_eq, ltI_eq, wr_eq]
  refine ⟨by simp; omega, ?_⟩
  have e := pick_val (n := n) h1
  have h6 := Int.emod_nonneg n (show m ≠ 0 by omega)
  have h7 := Int.emod_lt_of_pos n h1
  rw [ite2_eq]
  refine ⟨fun h => ?_, fun h => ?_⟩
  · rw [if_pos (of_decide_eq_true h)] at e
    rw [e, wrapI (by omega) (by omega)]; exact ⟨rfl, rfl⟩
  · rw [if_neg (of_decide_eq_false h)] at e
    rw [e]; exact ⟨rfl, rfl⟩
noncomputable def Upicked : Ctr Tryd.E := (Ctr.nil Tryd.E).add 8 (fun
    | [.int .i64 n, .int .i64 m] => some (decide (0 < m) && decide (m ≤ 9223372036854775807), .ret (.int .i64 (n % m)) [])
    | _ => none) (by
      intro args pre out h hp
      split at h
      · simp only [Option.some.injEq, Prod.mk.injEq] at h
        obtain ⟨rfl, rfl⟩ := h
        simp only [Bool.and_eq_true, decide_eq_true_eq] at hp
        exact upicked_c _ _ hp.1 hp.2
      · simp at h)
end Go.Proofs.YtcnnogimaikicaaDoor
