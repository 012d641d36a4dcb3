import Derived.Test.YtfpladpbnbpehaaEnv
import Derived.Test.YtfpladpbnbpehaaWV
import Derived.Test.YtfpladpbnbpehaaWY
import Derived.Test.YtfpladpbnbpehaaWK
set_option linter.unusedSimpArgs false
set_option linter.unusedVariables false
namespace Go.Proofs.Ytfpladpbnbpehaa
open Go Go.V
set_option maxHeartbeats 0
set_option maxRecDepth 100000

theorem usome_eq (full : Bool) (n : Nat) (f : Nat → List AV) (m : Int) (K : AV → Heap → Prop) : walk Try.E (ROps.rows Try.E) (Ctr.nil Try.E).C (fun _ _ => .unroll 17) 5 26 [.vecr full 4 n f, .int .i64 m] K = (
 let x0 : Int := ((n : Nat) : Int)
 cnd (Bool.true && (sliceOk Option.none (Option.some (cond Bool.false (Max.max x0 m) (Min.min x0 m))) n))
 (K (AV.vecr (full && Bool.false) 4 ((hiN n (Option.some (cond Bool.false (Max.max x0 m) (Min.min x0 m)))) - 0) (fun i => f ((loN Option.none) + i))) [])) := by kernel_rfl

end Go.Proofs.Ytfpladpbnbpehaa
