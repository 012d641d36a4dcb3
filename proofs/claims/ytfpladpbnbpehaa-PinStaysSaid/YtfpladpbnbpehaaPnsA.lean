import Derived.Test.YtfpladpbnbpehaaUcut
import Derived.Test.YtfpladpbnbpehaaUsome
import Derived.Test.YtfpladpbnbpehaaUpicked
import Derived.Test.YtfpladpbnbpehaaPin
set_option linter.unusedSimpArgs false
set_option linter.unusedVariables false
namespace Go.Proofs.Ytfpladpbnbpehaa
open Go Go.V Go.Pin
noncomputable def R1 : ROps Try.E := ROps.cold0 Try.E
noncomputable def P0 : Ctr Try.E := Ctr.or Ucut (Ctr.or Usome Upicked)
end Go.Proofs.Ytfpladpbnbpehaa
