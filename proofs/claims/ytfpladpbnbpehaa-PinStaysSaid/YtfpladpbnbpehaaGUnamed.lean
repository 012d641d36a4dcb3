import Derived.Test.YtfpladpbnbpehaaEnv
import Derived.Test.YtfpladpbnbpehaaKeyP
import Derived.Test.YtfpladpbnbpehaaUpicked
set_option linter.unusedSimpArgs false
set_option linter.unusedVariables false
namespace Go.Proofs.Ytfpladpbnbpehaa
open Go Go.V Go.Pin
set_option maxHeartbeats 0
set_option maxRecDepth 100000

theorem unamed_eq (n : Int) (K : AV → Heap → Prop) : walk Try.E (ROps.rows Try.E) Upicked.C (fun _ _ => .unroll 34) 5 16 [.int .i64 n] K = (

 cnd (sliceOk Option.none (Option.some (wr IntKind.i64 (1 + (n % 2)))) 2)
 (K (AV.str (sliceL Option.none (Option.some (wr IntKind.i64 (1 + (n % 2)))) (List.take 2 (List.drop 0 (List.set (List.set (List.replicate 2 0) 0 (97 + (UInt8.ofNat (Int.toNat ((n % 12) % 256))))) 1 122))))) [])) := by kernel_rfl

end Go.Proofs.Ytfpladpbnbpehaa
