import Derived.Test.YtcnnogimaikicaaDoorTrdI
set_option linter.unusedSimpArgs false
set_option linter.unusedVariables false
namespace Go.Proofs.YtcnnogimaikicaaDoor
open Go Go.V Go.Pat
set_option maxRecDepth 100000
theorem parse_w : wAll (fun x : List UInt8 × Pat => walkH Tryd.E R3 D4.C (fun _ _ => .unroll 8) 4 15 [.str x.1] [] (leafB (qWith x.2))) tabN = tAll tabN := by kernel_rfl
theorem parse_c (p : Pat) (h : p ∈ tabP) : HCall Tryd.E 15 [.str (showP p)] (.ret (.tup [patV p, .int .i64 0]) []) :=
  HCall.of_walkB (R := R3) (T := D4) (fun _ _ => .unroll 8) 4 rfl (wAll_of parse_w (showP p, p) (tabN_mem h)) (fun _ => qWith_le) rfl
theorem parse_l (p : Pat) (h : p ∈ tabP) : HCall Tryd.E 15 [.str (showP p)] (.ret (.tup [patL p, .int .i64 0]) []) :=
  HCall.weak (parse_c p h) (leV_tup (leRV_cons (leV_patL _) (leRV_cons (leV.refl _) leRV_nil))) (refsA_pure _ (by show pureL _ = true; rw [pureL, pure_patL]; rfl) _)
end Go.Proofs.YtcnnogimaikicaaDoor
