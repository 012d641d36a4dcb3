import Derived.Test.YtfpladpbnbpehaaUcut
import Derived.Test.YtfpladpbnbpehaaUsome
import Derived.Test.YtfpladpbnbpehaaUpicked
import Derived.Test.YtfpladpbnbpehaaFrm
import Derived.Test.YtfpladpbnbpehaaWX
set_option linter.unusedSimpArgs false
set_option linter.unusedVariables false
namespace Go.Proofs.Ytfpladpbnbpehaa
open Go Go.V Go.Frm
noncomputable def R0 : ROps Try.E := ROps.cold0 Try.E
noncomputable def F0 : Ctr Try.E := Ctr.or Ucut (Ctr.or Usome Upicked)
noncomputable def framesL (l : List Raw3) : LPlan := .mv [8, 9] [9] Nat Inv.upTo Inv.up (fun s => [s.t.getD 3 .any]) (fun n i => [(10, .int .i64 ((i : Nat) : Int)), (3, .slv n 3 i (frs (fsOf l)))]) (fun _ _ => []) (fun i => [.tail 3 i])
end Go.Proofs.Ytfpladpbnbpehaa
