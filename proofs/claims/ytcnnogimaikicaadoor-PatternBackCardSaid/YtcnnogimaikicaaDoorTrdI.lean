import Derived.Test.YtcnnogimaikicaaDoorTrdD
import Derived.Test.YtcnnogimaikicaaDoorUstr
import Derived.Test.YtcnnogimaikicaaDoorRun
import Derived.Test.YtcnnogimaikicaaDoorPatS
set_option linter.unusedSimpArgs false
set_option linter.unusedVariables false
namespace Go.Proofs.YtcnnogimaikicaaDoor
open Go Go.V Go.Pat
set_option maxRecDepth 100000
noncomputable def R3 : ROps Tryd.E := ROps.warm (ROps.rune R2)
noncomputable def D4 : Ctr Tryd.E := Ctr.or Ustr D2
theorem show_w : wAll (fun x : AV × List UInt8 => walkH Tryd.E R3 D4.C (fun _ _ => .unroll 8) 4 14 [x.1] [] (leafB (qShow x.2))) tabS = tAll tabS := by kernel_rfl
theorem show_c (p : Pat) (h : p ∈ tabP) : HCall Tryd.E 14 [patL p] (.ret (.tup [.str (showP p), .int .i64 0]) []) :=
  HCall.of_walkB (R := R3) (T := D4) (fun _ _ => .unroll 8) 4 (by rw [pureL, pure_patL]; rfl) (wAll_of show_w _ (tabS_mem h)) (fun _ => qShow_le) rfl
end Go.Proofs.YtcnnogimaikicaaDoor
