import Derived.Test.YtfpladpbnbpehaaEnv
import Derived.Test.YtfpladpbnbpehaaWV
import Derived.Test.YtfpladpbnbpehaaWY
import Derived.Test.YtfpladpbnbpehaaWK
set_option linter.unusedSimpArgs false
set_option linter.unusedVariables false
namespace Go.Proofs.Ytfpladpbnbpehaa
open Go Go.V
set_option maxHeartbeats 0
set_option maxRecDepth 100000

theorem ucut_eq (s : List UInt8) (m : Int) (K : AV → Heap → Prop) : walk Try.E (ROps.rows Try.E) (Ctr.nil Try.E).C (fun _ _ => .unroll 17) 5 27 [.str s, .int .i64 m] K = (
 let x0 : Nat := (List.length s)
 let x1 : Int := ((x0 : Nat) : Int)
 cnd (sliceOk Option.none (Option.some (cond Bool.false (Max.max x1 m) (Min.min x1 m))) x0)
 (K (AV.str (sliceL Option.none (Option.some (cond Bool.false (Max.max x1 m) (Min.min x1 m))) s)) [])) := by kernel_rfl

end Go.Proofs.Ytfpladpbnbpehaa
