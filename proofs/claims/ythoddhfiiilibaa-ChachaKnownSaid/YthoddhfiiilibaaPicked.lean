import Derived.Test.YthoddhfiiilibaaChaC
import Derived.Test.YthoddhfiiilibaaPick
set_option linter.unusedSimpArgs false
set_option linter.unusedVariables false
namespace Go.Proofs.Ythoddhfiiilibaa
open Go Go.V Go.Cha
set_option maxRecDepth 100000
theorem picked_w (n m : Int) (K : AV → Heap → Prop) : walk Try.E RS T0.C (fun _ _ => .unroll 6) 3 11 [.int .i64 n, .int .i64 m] K =
    cnd (m != 0) (ite2 (decide (n.tmod m < 0)) (K (.int .i64 (IntKind.i64.wrap (n.tmod m + m))) []) (K (.int .i64 (n.tmod m)) [])) := by kernel_rfl
theorem picked_c (n m : Int) (h1 : 0 < m) (h2 : m ≤ 9223372036854775807) : HCall Try.E 11 [.int .i64 n, .int .i64 m] (.ret (.int .i64 (n % m)) []) := by
  refine HCall.of_walk (R := RS) (T := T0) (fun _ _ => .unroll 6) 3 rfl rfl ?_
  rw [picked_w, cnd_eq]
  refine ⟨by simp; omega, ?_⟩
  have e := pick_val (n := n) h1
  have h6 := Int.emod_nonneg n (show m ≠ 0 by omega)
  have h7 := Int.emod_lt_of_pos n h1
  rw [ite2_eq]
  refine ⟨fun h => ?_, fun h => ?_⟩
  · rw [if_pos (of_decide_eq_true h)] at e
    rw [e, wrapI (by omega) (by omega)]; exact ⟨rfl, rfl⟩
  · rw [if_neg (of_decide_eq_false h)] at e
    rw [e]; exact ⟨rfl, rfl⟩
noncomputable def T3 : Ctr Try.E := T2.add 11 (fun
    | [.int .i64 n, .int .i64 m] => some (decide (0 < m) && decide (m ≤ 9223372036854775807), .ret (.int .i64 (n % m)) [])
    | _ => none) (by
      intro args pre out h hp
      split at h
      · simp only [Option.some.injEq, Prod.mk.injEq] at h
        obtain ⟨rfl, rfl⟩ := h
        simp only [Bool.and_eq_true, decide_eq_true_eq] at hp
        exact picked_c _ _ hp.1 hp.2
      · simp at h)
end Go.Proofs.Ythoddhfiiilibaa
