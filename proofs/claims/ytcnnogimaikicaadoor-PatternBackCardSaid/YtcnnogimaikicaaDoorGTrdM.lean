import Derived.Test.YtcnnogimaikicaaDoorTrdM
set_option linter.unusedSimpArgs false
set_option linter.unusedVariables false
namespace Go.Proofs.YtcnnogimaikicaaDoor
open Go Go.V Go.Pat
set_option maxHeartbeats 0
set_option maxRecDepth 100000

theorem dback0_eq (n mask : Int) (K : AV → Heap → Prop) : walk Tryd.E R3 (pickK D5 0).C (fun _ _ => .unroll 12) 9 6 [.int .i64 n, .int .i64 mask] K = (

 cnd ((n % 6) == 0)
 (ite2 ((mask % 16) == 0)
 -- THEN
 (K (AV.bool Bool.true) [])
 -- ELSE
 (ite2 ((mask % 16) == 1)
 -- THEN
 (K (AV.bool Bool.true) [])
 -- ELSE
 (ite2 ((mask % 16) == 2)
 -- THEN
 (K (AV.bool Bool.true) [])
 -- ELSE
 (ite2 ((mask % 16) == 3)
 -- THEN
 (K (AV.bool Bool.true) [])
 -- ELSE
 (ite2 ((mask % 16) == 4)
 -- THEN
 (K (AV.bool Bool.true) [])
 -- ELSE
 (ite2 ((mask % 16) == 5)
 -- THEN
 (K (AV.bool Bool.true) [])
 -- ELSE
 (ite2 ((mask % 16) == 6)
 -- THEN
 (K (AV.bool Bool.true) [])
 -- ELSE
 (ite2 ((mask % 16) == 7)
 -- THEN
 (K (AV.bool Bool.true) [])
 -- ELSE
 (ite2 ((mask % 16) == 8)
 -- THEN
 (K (AV.bool Bool.true) [])
 -- ELSE
 (ite2 ((mask % 16) == 9)
 -- THEN
 (K (AV.bool Bool.true) [])
 -- ELSE
 (ite2 ((mask % 16) == 10)
 -- THEN
 (K (AV.bool Bool.true) [])
 -- ELSE
 (ite2 ((mask % 16) == 11)
 -- THEN
 (K (AV.bool Bool.true) [])
 -- ELSE
 (ite2 ((mask % 16) == 12)
 -- THEN
 (K (AV.bool Bool.true) [])
 -- ELSE
 (ite2 ((mask % 16) == 13)
 -- THEN
 (K (AV.bool Bool.true) [])
 -- ELSE
 (ite2 ((mask % 16) == 14)
 -- THEN
 (K (AV.bool Bool.true) [])
 -- ELSE
 (K (AV.bool Bool.true) []))))))))))))))))) := by kernel_rfl

theorem dback1_eq (n mask : Int) (K : AV → Heap → Prop) : walk Tryd.E R3 (pickK D5 1).C (fun _ _ => .unroll 12) 9 6 [.int .i64 n, .int .i64 mask] K = (

 cnd ((n % 6) == 1)
 (ite2 ((mask % 16) == 0)
 -- THEN
 (K (AV.bool Bool.true) [])
 -- ELSE
 (ite2 ((mask % 16) == 1)
 -- THEN
 (K (AV.bool Bool.true) [])
 -- ELSE
 (ite2 ((mask % 16) == 2)
 -- THEN
 (K (AV.bool Bool.true) [])
 -- ELSE
 (ite2 ((mask % 16) == 3)
 -- THEN
 (K (AV.bool Bool.true) [])
 -- ELSE
 (ite2 ((mask % 16) == 4)
 -- THEN
 (K (AV.bool Bool.true) [])
 -- ELSE
 (ite2 ((mask % 16) == 5)
 -- THEN
 (K (AV.bool Bool.true) [])
 -- ELSE
 (ite2 ((mask % 16) == 6)
 -- THEN
 (K (AV.bool Bool.true) [])
 -- ELSE
 (ite2 ((mask % 16) == 7)
 -- THEN
 (K (AV.bool Bool.true) [])
 -- ELSE
 (ite2 ((mask % 16) == 8)
 -- THEN
 (K (AV.bool Bool.true) [])
 -- ELSE
 (ite2 ((mask % 16) == 9)
 -- THEN
 (K (AV.bool Bool.true) [])
 -- ELSE
 (ite2 ((mask % 16) == 10)
 -- THEN
 (K (AV.bool Bool.true) [])
 -- ELSE
 (ite2 ((mask % 16) == 11)
 -- THEN
 (K (AV.bool Bool.true) [])
 -- ELSE
 (ite2 ((mask % 16) == 12)
 -- THEN
 (K (AV.bool Bool.true) [])
 -- ELSE
 (ite2 ((mask % 16) == 13)
 -- THEN
 (K (AV.bool Bool.true) [])
 -- ELSE
 (ite2 ((mask % 16) == 14)
 -- THEN
 (K (AV.bool Bool.true) [])
 -- ELSE
 (K (AV.bool Bool.true) []))))))))))))))))) := by kernel_rfl

theorem dback2_eq (n mask : Int) (K : AV → Heap → Prop) : walk Tryd.E R3 (pickK D5 2).C (fun _ _ => .unroll 12) 9 6 [.int .i64 n, .int .i64 mask] K = (

 cnd ((n % 6) == 2)
 (ite2 ((mask % 16) == 0)
 -- THEN
 (K (AV.bool Bool.true) [])
 -- ELSE
 (ite2 ((mask % 16) == 1)
 -- THEN
 (K (AV.bool Bool.true) [])
 -- ELSE
 (ite2 ((mask % 16) == 2)
 -- THEN
 (K (AV.bool Bool.true) [])
 -- ELSE
 (ite2 ((mask % 16) == 3)
 -- THEN
 (K (AV.bool Bool.true) [])
 -- ELSE
 (ite2 ((mask % 16) == 4)
 -- THEN
 (K (AV.bool Bool.true) [])
 -- ELSE
 (ite2 ((mask % 16) == 5)
 -- THEN
 (K (AV.bool Bool.true) [])
 -- ELSE
 (ite2 ((mask % 16) == 6)
 -- THEN
 (K (AV.bool Bool.true) [])
 -- ELSE
 (ite2 ((mask % 16) == 7)
 -- THEN
 (K (AV.bool Bool.true) [])
 -- ELSE
 (ite2 ((mask % 16) == 8)
 -- THEN
 (K (AV.bool Bool.true) [])
 -- ELSE
 (ite2 ((mask % 16) == 9)
 -- THEN
 (K (AV.bool Bool.true) [])
 -- ELSE
 (ite2 ((mask % 16) == 10)
 -- THEN
 (K (AV.bool Bool.true) [])
 -- ELSE
 (ite2 ((mask % 16) == 11)
 -- THEN
 (K (AV.bool Bool.true) [])
 -- ELSE
 (ite2 ((mask % 16) == 12)
 -- THEN
 (K (AV.bool Bool.true) [])
 -- ELSE
 (ite2 ((mask % 16) == 13)
 -- THEN
 (K (AV.bool Bool.true) [])
 -- ELSE
 (ite2 ((mask % 16) == 14)
 -- THEN
 (K (AV.bool Bool.true) [])
 -- ELSE
 (K (AV.bool Bool.true) []))))))))))))))))) := by kernel_rfl

theorem dback3_eq (n mask : Int) (K : AV → Heap → Prop) : walk Tryd.E R3 (pickK D5 3).C (fun _ _ => .unroll 12) 9 6 [.int .i64 n, .int .i64 mask] K = (

 cnd ((n % 6) == 3)
 (ite2 ((mask % 16) == 0)
 -- THEN
 (K (AV.bool Bool.true) [])
 -- ELSE
 (ite2 ((mask % 16) == 1)
 -- THEN
 (K (AV.bool Bool.true) [])
 -- ELSE
 (ite2 ((mask % 16) == 2)
 -- THEN
 (K (AV.bool Bool.true) [])
 -- ELSE
 (ite2 ((mask % 16) == 3)
 -- THEN
 (K (AV.bool Bool.true) [])
 -- ELSE
 (ite2 ((mask % 16) == 4)
 -- THEN
 (K (AV.bool Bool.true) [])
 -- ELSE
 (ite2 ((mask % 16) == 5)
 -- THEN
 (K (AV.bool Bool.true) [])
 -- ELSE
 (ite2 ((mask % 16) == 6)
 -- THEN
 (K (AV.bool Bool.true) [])
 -- ELSE
 (ite2 ((mask % 16) == 7)
 -- THEN
 (K (AV.bool Bool.true) [])
 -- ELSE
 (ite2 ((mask % 16) == 8)
 -- THEN
 (K (AV.bool Bool.true) [])
 -- ELSE
 (ite2 ((mask % 16) == 9)
 -- THEN
 (K (AV.bool Bool.true) [])
 -- ELSE
 (ite2 ((mask % 16) == 10)
 -- THEN
 (K (AV.bool Bool.true) [])
 -- ELSE
 (ite2 ((mask % 16) == 11)
 -- THEN
 (K (AV.bool Bool.true) [])
 -- ELSE
 (ite2 ((mask % 16) == 12)
 -- THEN
 (K (AV.bool Bool.true) [])
 -- ELSE
 (ite2 ((mask % 16) == 13)
 -- THEN
 (K (AV.bool Bool.true) [])
 -- ELSE
 (ite2 ((mask % 16) == 14)
 -- THEN
 (K (AV.bool Bool.true) [])
 -- ELSE
 (K (AV.bool Bool.true) []))))))))))))))))) := by kernel_rfl

theorem dback4_eq (n mask : Int) (K : AV → Heap → Prop) : walk Tryd.E R3 (pickK D5 4).C (fun _ _ => .unroll 12) 9 6 [.int .i64 n, .int .i64 mask] K = (

 cnd ((n % 6) == 4)
 (ite2 ((mask % 16) == 0)
 -- THEN
 (K (AV.bool Bool.true) [])
 -- ELSE
 (ite2 ((mask % 16) == 1)
 -- THEN
 (K (AV.bool Bool.true) [])
 -- ELSE
 (ite2 ((mask % 16) == 2)
 -- THEN
 (K (AV.bool Bool.true) [])
 -- ELSE
 (ite2 ((mask % 16) == 3)
 -- THEN
 (K (AV.bool Bool.true) [])
 -- ELSE
 (ite2 ((mask % 16) == 4)
 -- THEN
 (K (AV.bool Bool.true) [])
 -- ELSE
 (ite2 ((mask % 16) == 5)
 -- THEN
 (K (AV.bool Bool.true) [])
 -- ELSE
 (ite2 ((mask % 16) == 6)
 -- THEN
 (K (AV.bool Bool.true) [])
 -- ELSE
 (ite2 ((mask % 16) == 7)
 -- THEN
 (K (AV.bool Bool.true) [])
 -- ELSE
 (ite2 ((mask % 16) == 8)
 -- THEN
 (K (AV.bool Bool.true) [])
 -- ELSE
 (ite2 ((mask % 16) == 9)
 -- THEN
 (K (AV.bool Bool.true) [])
 -- ELSE
 (ite2 ((mask % 16) == 10)
 -- THEN
 (K (AV.bool Bool.true) [])
 -- ELSE
 (ite2 ((mask % 16) == 11)
 -- THEN
 (K (AV.bool Bool.true) [])
 -- ELSE
 (ite2 ((mask % 16) == 12)
 -- THEN
 (K (AV.bool Bool.true) [])
 -- ELSE
 (ite2 ((mask % 16) == 13)
 -- THEN
 (K (AV.bool Bool.true) [])
 -- ELSE
 (ite2 ((mask % 16) == 14)
 -- THEN
 (K (AV.bool Bool.true) [])
 -- ELSE
 (K (AV.bool Bool.true) []))))))))))))))))) := by kernel_rfl

theorem dback5_eq (n mask : Int) (K : AV → Heap → Prop) : walk Tryd.E R3 (pickK D5 5).C (fun _ _ => .unroll 12) 9 6 [.int .i64 n, .int .i64 mask] K = (

 cnd ((n % 6) == 5)
 (ite2 ((mask % 16) == 0)
 -- THEN
 (K (AV.bool Bool.true) [])
 -- ELSE
 (ite2 ((mask % 16) == 1)
 -- THEN
 (K (AV.bool Bool.true) [])
 -- ELSE
 (ite2 ((mask % 16) == 2)
 -- THEN
 (K (AV.bool Bool.true) [])
 -- ELSE
 (ite2 ((mask % 16) == 3)
 -- THEN
 (K (AV.bool Bool.true) [])
 -- ELSE
 (ite2 ((mask % 16) == 4)
 -- THEN
 (K (AV.bool Bool.true) [])
 -- ELSE
 (ite2 ((mask % 16) == 5)
 -- THEN
 (K (AV.bool Bool.true) [])
 -- ELSE
 (ite2 ((mask % 16) == 6)
 -- THEN
 (K (AV.bool Bool.true) [])
 -- ELSE
 (ite2 ((mask % 16) == 7)
 -- THEN
 (K (AV.bool Bool.true) [])
 -- ELSE
 (ite2 ((mask % 16) == 8)
 -- THEN
 (K (AV.bool Bool.true) [])
 -- ELSE
 (ite2 ((mask % 16) == 9)
 -- THEN
 (K (AV.bool Bool.true) [])
 -- ELSE
 (ite2 ((mask % 16) == 10)
 -- THEN
 (K (AV.bool Bool.true) [])
 -- ELSE
 (ite2 ((mask % 16) == 11)
 -- THEN
 (K (AV.bool Bool.true) [])
 -- ELSE
 (ite2 ((mask % 16) == 12)
 -- THEN
 (K (AV.bool Bool.true) [])
 -- ELSE
 (ite2 ((mask % 16) == 13)
 -- THEN
 (K (AV.bool Bool.true) [])
 -- ELSE
 (ite2 ((mask % 16) == 14)
 -- THEN
 (K (AV.bool Bool.true) [])
 -- ELSE
 (K (AV.bool Bool.true) []))))))))))))))))) := by kernel_rfl

end Go.Proofs.YtcnnogimaikicaaDoor
