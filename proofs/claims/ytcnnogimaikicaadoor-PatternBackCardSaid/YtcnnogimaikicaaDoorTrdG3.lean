import Derived.Test.YtcnnogimaikicaaDoorTrdA
import Derived.Test.YtcnnogimaikicaaDoorPatT
set_option linter.unusedSimpArgs false
set_option linter.unusedVariables false
namespace Go.Proofs.YtcnnogimaikicaaDoor
open Go Go.V Go.Pat
set_option maxRecDepth 100000
/-- All patterns may be: some of them. -/
theorem checkG3 : wAll (fun a => walkH Tryd.E R2 (Ctr.nil Tryd.E).C (fun _ _ => .unroll 12) 4 9 [a] [] (leafB qNil)) (tabA.drop 55) = tAll (tabA.drop 55) := by kernel_rfl
end Go.Proofs.YtcnnogimaikicaaDoor
