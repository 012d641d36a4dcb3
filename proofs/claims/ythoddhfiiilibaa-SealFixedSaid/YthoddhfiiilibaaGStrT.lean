import Derived.Test.YthoddhfiiilibaaLStrO
import Derived.Test.YthoddhfiiilibaaWR
set_option linter.unusedSimpArgs false
set_option linter.unusedVariables false
namespace Go.Proofs.Ythoddhfiiilibaa
open Go Go.V Go.Cha
set_option maxHeartbeats 0
set_option maxRecDepth 100000

theorem tells_eq (K : AV → Heap → Prop) : walk Try.E RS T4.C (fun _ _ => .unroll 17) 5 14 [] K = (
 let x0 : List UInt8 := [0, 0, 0, 0, 0, 0, 0, 0, 0, 0, 0, 0]
 K (AV.bool ((((UInt8.toNat (List.getD (Cha.blockS [0, 0, 0, 0, 0, 0, 0, 0, 0, 0, 0, 0, 0, 0, 0, 0, 0, 0, 0, 0, 0, 0, 0, 0, 0, 0, 0, 0, 0, 0, 0, 0] 0 x0) 0 0)) : Nat) : Int) == 118)) []) := by kernel_rfl

end Go.Proofs.Ythoddhfiiilibaa
