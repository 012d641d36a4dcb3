import Derived.Test.YtcnnogimaikicaaDoorTrdB
import Derived.Test.YtcnnogimaikicaaDoorPatL
set_option linter.unusedSimpArgs false
set_option linter.unusedVariables false
namespace Go.Proofs.YtcnnogimaikicaaDoor
open Go Go.V Go.Pat
set_option maxRecDepth 100000
/-- Places, as slices. -/
def qInts (l : List Int) (x : AV) : Bool := okIs x && decide (rdIs x = l)
theorem qInts_le {l : List Int} {x : AV} (h : qInts l x = true) : leV x (vI l) := by
  simp only [qInts, Bool.and_eq_true, decide_eq_true_eq] at h
  rw [← h.2]
  exact okIs_le h.1
def plCases : List (Int × Int) := (List.range 16).flatMap fun (k : Nat) => [(2, (k : Int)), (3, (k : Int))]
theorem places_w : wAll (fun x : Int × Int => walkH Tryd.E R1 (Ctr.nil Tryd.E).C (fun _ _ => .unroll 6) 4 18 [.int .i64 x.1, .int .i64 x.2] [] (leafB (qInts (plL x.1 x.2)))) plCases = tAll plCases := by kernel_rfl
theorem places_c (m k : Int) (h : (m, k) ∈ plCases) : HCall Tryd.E 18 [.int .i64 m, .int .i64 k] (.ret (vI (plL m k)) []) :=
  HCall.of_walkB (R := R1) (T := Ctr.nil Tryd.E) (fun _ _ => .unroll 6) 4 rfl (wAll_of places_w (m, k) h) (fun _ => qInts_le) rfl
noncomputable def D1 : Ctr Tryd.E := D0.add 18 (fun
    | [.int .i64 m, .int .i64 k] => some (decide ((m, k) ∈ plCases), .ret (vI (plL m k)) [])
    | _ => none) (by
      intro args pre out h hp
      split at h
      · simp only [Option.some.injEq, Prod.mk.injEq] at h
        obtain ⟨rfl, rfl⟩ := h
        exact places_c _ _ (of_decide_eq_true hp)
      · simp at h)
/-- A base pattern with psks, case by case. -/
theorem with_w : wAll (fun x : List UInt8 × List Int => walkH Tryd.E R2 (Ctr.nil Tryd.E).C (fun _ _ => .unroll 8) 4 17 [.str x.1, vI x.2] [] (leafB (qWith (withP x.1 x.2)))) allW = tAll allW := by kernel_rfl
theorem with_c (s : List UInt8) (l : List Int) (h : isW s l = true) : HCall Tryd.E 17 [.str s, vI l] (.ret (.tup [patV (withP s l), .int .i64 0]) []) :=
  HCall.of_walkB (R := R2) (T := Ctr.nil Tryd.E) (fun _ _ => .unroll 8) 4 rfl (wAll_of with_w (s, l) (of_decide_eq_true h)) (fun _ => qWith_le) rfl
end Go.Proofs.YtcnnogimaikicaaDoor
