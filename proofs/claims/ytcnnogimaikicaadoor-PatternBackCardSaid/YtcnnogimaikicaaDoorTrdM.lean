import Derived.Test.YtcnnogimaikicaaDoorTrdL
import Derived.Test.YtcnnogimaikicaaDoorTrdJ
set_option linter.unusedSimpArgs false
set_option linter.unusedVariables false
namespace Go.Proofs.YtcnnogimaikicaaDoor
open Go Go.V Go.Pat
set_option maxRecDepth 100000
/-- All slices of numbers that stand in patterns. -/
def tabL : List (List Int) := [[], [0], [1], [2], [3], [0, 1], [0, 2], [0, 3], [1, 2], [1, 3], [1, 4], [1, 7], [2, 3], [2, 5], [7, 1], [0, 1, 2], [0, 1, 3], [0, 2, 3], [1, 2, 3], [1, 3, 5], [1, 3, 7], [1, 4, 6], [1, 4, 7], [2, 5, 7], [7, 1, 4], [7, 1, 7], [0, 1, 2, 3], [1, 3, 2, 4], [1, 3, 5, 7], [1, 4, 2, 6], [1, 4, 6, 7], [7, 1, 4, 6], [7, 1, 4, 7], [1, 3, 2, 4, 7], [1, 4, 2, 6, 7], [7, 1, 4, 2, 6], [7, 1, 4, 6, 7], [7, 1, 4, 2, 6, 7]]
def qTrue : AV → Bool
  | .bool b => b
  | _ => false
theorem qTrue_le {x : AV} (h : qTrue x = true) : leV x (.bool true) := by
  unfold qTrue at h
  split at h
  · subst h
    exact leV.refl _
  · cases h
theorem same_w : wAll (fun l : List Int => walkH Tryd.E R2 (Ctr.nil Tryd.E).C (fun _ _ => .unroll 9) 4 34 [vL l, vL l] [] (leafB qTrue)) tabL = tAll tabL := by kernel_rfl
theorem same_c (l : List Int) (h : l ∈ tabL) : HCall Tryd.E 34 [vL l, vL l] (.ret (.bool true) []) :=
  HCall.of_walkB (R := R2) (T := Ctr.nil Tryd.E) (fun _ _ => .unroll 9) 4 (by rw [pureL, pureL, pure_vL]; rfl) (wAll_of same_w _ h) (fun _ => qTrue_le) rfl
/-- Patterns by their names, and names of patterns. -/
noncomputable def D5 : Ctr Tryd.E := ((D3.add 34 (fun
    | [x, y] => bif (okIs x && okIs y) && ((rdIs x == rdIs y) && tabL.contains (rdIs x)) then some (true, .ret (.bool true) []) else none
    | _ => none) (by
      intro args pre out h hp
      split at h
      · rename_i x y
        cases hb : (okIs x && okIs y) && ((rdIs x == rdIs y) && tabL.contains (rdIs x)) with
        | false => rw [hb] at h; simp at h
        | true =>
          rw [hb] at h
          simp only [cond_true, Option.some.injEq, Prod.mk.injEq] at h
          obtain ⟨rfl, rfl⟩ := h
          simp only [Bool.and_eq_true, List.contains_iff_mem, beq_iff_eq] at hb
          obtain ⟨⟨h1, h2⟩, h3, h4⟩ := hb
          exact HCall.args (same_c _ h4) (by rw [pureL, pureL, okIs_pure h1, okIs_pure h2]; rfl) fun ρ I w vs r => by
            obtain ⟨a, al, rfl, k1, k2⟩ := RV_cons.1 r
            obtain ⟨b, bs, rfl, k3, k4⟩ := RV_cons.1 k2
            have e1 := leV_vL _ _ _ _ _ (okIs_le h1 _ _ _ _ k1)
            have e2 := leV_vL _ _ _ _ _ (okIs_le h2 _ _ _ _ k3)
            rw [← h3] at e2
            exact RV_cons.2 ⟨_, _, rfl, e1, RV_cons.2 ⟨_, bs, rfl, e2, k4⟩⟩
      · simp at h)).add 14 (fun
    | [.agg l] => bif okPat (flL l) && tabP.contains (rdPat (flL l)) then some (true, .ret (.tup [.str (showP (rdPat (flL l))), .int .i64 0]) []) else none
    | _ => none) (by
      intro args pre out h hp
      split at h
      · rename_i l
        cases hb : okPat (flL l) && tabP.contains (rdPat (flL l)) with
        | false => rw [hb] at h; simp at h
        | true =>
          rw [hb] at h
          simp only [cond_true, Option.some.injEq, Prod.mk.injEq] at h
          obtain ⟨rfl, rfl⟩ := h
          simp only [Bool.and_eq_true, List.contains_iff_mem] at hb
          exact HCall.args (show_c _ hb.2) (by rw [pureL, okPat_pure hb.1]; rfl) fun ρ I w vs r => by
            obtain ⟨x, xs, rfl, k1, k2⟩ := RV_cons.1 r
            exact RV_cons.2 ⟨x, xs, rfl, leV_patL _ _ _ _ _ (arg_pat hb.1 _ _ _ _ k1), k2⟩
      · simp at h)).add 15 (fun
    | [.str s] => match findN s tabNA with
      | some o => some (true, o)
      | none => none
    | _ => none) (by
      intro args pre out h hp
      split at h
      · split at h
        · rename_i s o ho
          simp only [Option.some.injEq, Prod.mk.injEq] at h
          obtain ⟨rfl, rfl⟩ := h
          rw [tabNA_eq] at ho
          obtain ⟨p, h1, rfl, rfl⟩ := findN_some ho
          exact parse_l p h1
        · simp at h
      · simp at h)
end Go.Proofs.YtcnnogimaikicaaDoor
