import Derived.Test.YtfpladpbnbpehaaPnsA
set_option linter.unusedSimpArgs false
set_option linter.unusedVariables false
namespace Go.Proofs.Ytfpladpbnbpehaa
open Go Go.V Go.Pin
set_option maxHeartbeats 0
set_option maxRecDepth 100000

theorem pname_eq (s : List UInt8) (K : AV → Heap → Prop) : walk Try.E R1 P0.C (fun _ _ => .unroll 2) 5 30 [.str s] K = (
 let x0 : Int := (((List.length s) : Nat) : Int)
 ite2 (Bool.not (ltI x0 1))
 -- THEN
 (K (AV.bool (cond Bool.true (Bool.not (ltI 16 x0)) Bool.false)) [])
 -- ELSE
 (K (AV.bool Bool.false) [])) := by kernel_rfl

end Go.Proofs.Ytfpladpbnbpehaa
