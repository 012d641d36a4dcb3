import Derived.Test.YtcnnogimaikicaaDoorEnv
import Derived.Test.YtcnnogimaikicaaDoorUG
import Derived.Test.YtcnnogimaikicaaDoorWT
set_option linter.unusedSimpArgs false
set_option linter.unusedVariables false
namespace Go.Proofs.YtcnnogimaikicaaDoor
open Go Go.V
noncomputable def R1 : ROps Tryd.E := ROps.cold0 Tryd.E
noncomputable def R2 : ROps Tryd.E := ROps.lit (ROps.std Tryd.E)
end Go.Proofs.YtcnnogimaikicaaDoor
