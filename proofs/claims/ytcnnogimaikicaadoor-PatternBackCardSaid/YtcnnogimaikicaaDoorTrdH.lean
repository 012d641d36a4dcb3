import Derived.Test.YtcnnogimaikicaaDoorTrdD
import Derived.Test.YtcnnogimaikicaaDoorPatM
import Derived.Test.YtcnnogimaikicaaDoorTrdF
import Derived.Test.YtcnnogimaikicaaDoorTrdG
import Derived.Test.YtcnnogimaikicaaDoorTrdG2
import Derived.Test.YtcnnogimaikicaaDoorTrdG3
set_option linter.unusedSimpArgs false
set_option linter.unusedVariables false
namespace Go.Proofs.YtcnnogimaikicaaDoor
open Go Go.V Go.Pat
set_option maxRecDepth 100000
theorem check_c (p : Pat) (h : p ∈ tabP) : HCall Tryd.E 9 [patL p] (.ret (.int .i64 0) []) := by
  have hm : patL p ∈ tabA := by rw [← tabA_eq]; exact List.mem_map_of_mem h
  have hp : pureL [patL p] = true := by rw [pureL, pure_patL]; rfl
  have key : ∀ L : List AV, (∀ a ∈ L, walkH Tryd.E R2 (Ctr.nil Tryd.E).C (fun _ _ => .unroll 12) 4 9 [a] [] (leafB qNil)) → patL p ∈ L → HCall Tryd.E 9 [patL p] (.ret (.int .i64 0) []) :=
    fun L hL hm => HCall.of_walkB (R := R2) (T := Ctr.nil Tryd.E) (fun _ _ => .unroll 12) 4 hp (hL _ hm) (fun _ => qNil_le) rfl
  rw [← List.take_append_drop 33 tabA, List.mem_append] at hm
  rcases hm with hm | hm
  · exact key _ (wAll_of checkF) hm
  rw [← List.take_append_drop 12 (tabA.drop 33), List.mem_append, List.drop_drop] at hm
  rcases hm with hm | hm
  · exact key _ (wAll_of checkG) hm
  rw [← List.take_append_drop 10 (tabA.drop (33 + 12)), List.mem_append, List.drop_drop] at hm
  rcases hm with hm | hm
  · exact key _ (wAll_of checkG2) hm
  · exact key _ (wAll_of checkG3) hm
noncomputable def D3 : Ctr Tryd.E := D2.add 9 (fun
    | [.agg l] => bif okPat (flL l) && tabP.contains (rdPat (flL l)) then some (true, .ret (.int .i64 0) []) else none
    | _ => none) (by
      intro args pre out h hp
      split at h
      · rename_i l
        cases hb : okPat (flL l) && tabP.contains (rdPat (flL l)) with
        | false => rw [hb] at h; simp at h
        | true =>
          rw [hb] at h
          simp only [cond_true, Option.some.injEq, Prod.mk.injEq] at h
          obtain ⟨rfl, rfl⟩ := h
          simp only [Bool.and_eq_true, List.contains_iff_mem] at hb
          exact HCall.args (check_c _ hb.2) (by rw [pureL, okPat_pure hb.1]; rfl) fun ρ I w vs r => by
            obtain ⟨x, xs, rfl, k1, k2⟩ := RV_cons.1 r
            exact RV_cons.2 ⟨x, xs, rfl, leV_patL _ _ _ _ _ (arg_pat hb.1 _ _ _ _ k1), k2⟩
      · simp at h)
end Go.Proofs.YtcnnogimaikicaaDoor
