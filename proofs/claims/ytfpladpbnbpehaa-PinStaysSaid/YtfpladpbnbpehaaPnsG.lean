import Derived.Test.YtfpladpbnbpehaaPnsF
import Derived.Test.YtfpladpbnbpehaaUkey
import Derived.Test.YtfpladpbnbpehaaUnamed
import Derived.Test.YtfpladpbnbpehaaPinM
set_option linter.unusedSimpArgs false
set_option linter.unusedVariables false
namespace Go.Proofs.Ytfpladpbnbpehaa
open Go Go.V Go.Pin
noncomputable def P5 : Ctr Try.E := Ctr.or Ukey (Ctr.or Unamed (P4.nil1 [22, 18, 19, 21, 28, 25] 34))
noncomputable def pinnedL (l : List Raw3) : LPlan := .mv [11, 12] [12] (Nat × List Pn) (fun g x => Inv.upTo g x.1 ∧ faultP x.2 = 0 ∧ x.2 = pinnedN l x.1) (fun x => Inv.up x.1) (fun _ => [])
  (fun _ x => [(4, .vecr false 34 x.2.length (pcs x.2)), (5, .bool true), (13, .int .i64 ((x.1 : Nat) : Int))]) (fun _ _ => []) (fun _ => [])
end Go.Proofs.Ytfpladpbnbpehaa
