import Derived.Test.YtfpladpbnbpehaaEnv
import Derived.Test.YtfpladpbnbpehaaKeyP
set_option linter.unusedSimpArgs false
set_option linter.unusedVariables false
namespace Go.Proofs.Ytfpladpbnbpehaa
open Go Go.V Go.Pin
set_option maxHeartbeats 0
set_option maxRecDepth 100000

theorem ukey_eq (n : Int) (K : AV → Heap → Prop) : walk Try.E (ROps.rows Try.E) (Ctr.nil Try.E).C (fun _ _ => .unroll 34) 5 17 [.int .i64 n] K = (
 let x0 : UInt32 := (UInt32.ofNat (Int.toNat (n % 4294967296)))
 let x1 : UInt8 := (UInt32.toUInt8 (shr32 x0 0))
 let x2 : UInt8 := (UInt32.toUInt8 (shr32 x0 8))
 let x3 : UInt8 := (UInt32.toUInt8 (shr32 x0 16))
 let x4 : UInt8 := (UInt32.toUInt8 (shr32 x0 24))
 K (AV.b8 32 (List.set (List.set (List.set (List.set (List.set (List.set (List.set (List.set (List.set (List.set (List.set (List.set (List.set (List.set (List.set (List.set (List.set (List.set (List.set (List.set (List.set (List.set (List.set (List.set (List.set (List.set (List.set (List.set (List.set (List.set (List.set (List.set [0, 0, 0, 0, 0, 0, 0, 0, 0, 0, 0, 0, 0, 0, 0, 0, 0, 0, 0, 0, 0, 0, 0, 0, 0, 0, 0, 0, 0, 0, 0, 0] 0 (x1 + 0)) 1 (x2 + 1)) 2 (x3 + 4)) 3 (x4 + 9)) 4 (x1 + 16)) 5 (x2 + 25)) 6 (x3 + 36)) 7 (x4 + 49)) 8 (x1 + 64)) 9 (x2 + 81)) 10 (x3 + 100)) 11 (x4 + 121)) 12 (x1 + 144)) 13 (x2 + 169)) 14 (x3 + 196)) 15 (x4 + 225)) 16 (x1 + 0)) 17 (x2 + 33)) 18 (x3 + 68)) 19 (x4 + 105)) 20 (x1 + 144)) 21 (x2 + 185)) 22 (x3 + 228)) 23 (x4 + 17)) 24 (x1 + 64)) 25 (x2 + 113)) 26 (x3 + 164)) 27 (x4 + 217)) 28 (x1 + 16)) 29 (x2 + 73)) 30 (x3 + 132)) 31 (x4 + 193))) []) := by kernel_rfl

end Go.Proofs.Ytfpladpbnbpehaa
