import Derived.Test.YtcnnogimaikicaaDoorTrdL
set_option linter.unusedSimpArgs false
set_option linter.unusedVariables false
namespace Go.Proofs.YtcnnogimaikicaaDoor
open Go Go.V Go.Pat
set_option maxHeartbeats 0
set_option maxRecDepth 100000

theorem dfew0_eq (n turn token : Int) (K : AV → Heap → Prop) : walk Tryd.E R2 (pickK D3 0).C (fun _ _ => .unroll 12) 9 3 [.int .i64 n, .int .i64 turn, .int .i64 token] K = (

 cnd ((n % 6) == 0)
 (ite2 ((turn % ((2 : Nat) : Int)) == 0)
 -- THEN
 (K (AV.bool Bool.true) [])
 -- ELSE
 (ite2 ((token % ((2 : Nat) : Int)) == 0)
 -- THEN
 (K (AV.bool Bool.true) [])
 -- ELSE
 (K (AV.bool Bool.true) [])))) := by kernel_rfl

theorem dfew1_eq (n turn token : Int) (K : AV → Heap → Prop) : walk Tryd.E R2 (pickK D3 1).C (fun _ _ => .unroll 12) 9 3 [.int .i64 n, .int .i64 turn, .int .i64 token] K = (

 cnd ((n % 6) == 1)
 (ite2 ((turn % ((2 : Nat) : Int)) == 0)
 -- THEN
 (ite2 ((token % ((2 : Nat) : Int)) == 0)
 -- THEN
 (K (AV.bool Bool.true) [])
 -- ELSE
 (K (AV.bool Bool.true) []))
 -- ELSE
 (ite2 ((token % ((2 : Nat) : Int)) == 0)
 -- THEN
 (K (AV.bool Bool.true) [])
 -- ELSE
 (K (AV.bool Bool.true) [])))) := by kernel_rfl

theorem dfew2_eq (n turn token : Int) (K : AV → Heap → Prop) : walk Tryd.E R2 (pickK D3 2).C (fun _ _ => .unroll 12) 9 3 [.int .i64 n, .int .i64 turn, .int .i64 token] K = (
 let x0 : Int := (turn % ((3 : Nat) : Int))
 let x1 : Int := (token % ((4 : Nat) : Int))
 cnd ((n % 6) == 2)
 (ite2 (x0 == 0)
 -- THEN
 (K (AV.bool Bool.true) [])
 -- ELSE
 (ite2 (x0 == 1)
 -- THEN
 (ite2 (x1 == 0)
 -- THEN
 (K (AV.bool Bool.true) [])
 -- ELSE
 (ite2 (x1 == 1)
 -- THEN
 (K (AV.bool Bool.true) [])
 -- ELSE
 (ite2 (x1 == 2)
 -- THEN
 (K (AV.bool Bool.true) [])
 -- ELSE
 (K (AV.bool Bool.true) []))))
 -- ELSE
 (ite2 ((token % ((2 : Nat) : Int)) == 0)
 -- THEN
 (K (AV.bool Bool.true) [])
 -- ELSE
 (K (AV.bool Bool.true) []))))) := by kernel_rfl

theorem dfew3_eq (n turn token : Int) (K : AV → Heap → Prop) : walk Tryd.E R2 (pickK D3 3).C (fun _ _ => .unroll 12) 9 3 [.int .i64 n, .int .i64 turn, .int .i64 token] K = (
 let x0 : Int := (token % ((4 : Nat) : Int))
 let x1 : Int := (token % ((3 : Nat) : Int))
 cnd ((n % 6) == 3)
 (ite2 ((turn % ((2 : Nat) : Int)) == 0)
 -- THEN
 (ite2 (x0 == 0)
 -- THEN
 (K (AV.bool Bool.true) [])
 -- ELSE
 (ite2 (x0 == 1)
 -- THEN
 (K (AV.bool Bool.true) [])
 -- ELSE
 (ite2 (x0 == 2)
 -- THEN
 (K (AV.bool Bool.true) [])
 -- ELSE
 (K (AV.bool Bool.true) []))))
 -- ELSE
 (ite2 (x1 == 0)
 -- THEN
 (K (AV.bool Bool.true) [])
 -- ELSE
 (ite2 (x1 == 1)
 -- THEN
 (K (AV.bool Bool.true) [])
 -- ELSE
 (K (AV.bool Bool.true) []))))) := by kernel_rfl

theorem dfew4_eq (n turn token : Int) (K : AV → Heap → Prop) : walk Tryd.E R2 (pickK D3 4).C (fun _ _ => .unroll 12) 9 3 [.int .i64 n, .int .i64 turn, .int .i64 token] K = (
 let x0 : Int := (turn % ((3 : Nat) : Int))
 cnd ((n % 6) == 4)
 (ite2 (x0 == 0)
 -- THEN
 (ite2 ((token % ((2 : Nat) : Int)) == 0)
 -- THEN
 (K (AV.bool Bool.true) [])
 -- ELSE
 (K (AV.bool Bool.true) []))
 -- ELSE
 (ite2 (x0 == 1)
 -- THEN
 (ite2 ((token % ((2 : Nat) : Int)) == 0)
 -- THEN
 (K (AV.bool Bool.true) [])
 -- ELSE
 (K (AV.bool Bool.true) []))
 -- ELSE
 (ite2 ((token % ((2 : Nat) : Int)) == 0)
 -- THEN
 (K (AV.bool Bool.true) [])
 -- ELSE
 (K (AV.bool Bool.true) []))))) := by kernel_rfl

theorem dfew5_eq (n turn token : Int) (K : AV → Heap → Prop) : walk Tryd.E R2 (pickK D3 5).C (fun _ _ => .unroll 12) 9 3 [.int .i64 n, .int .i64 turn, .int .i64 token] K = (
 let x0 : Int := (token % ((3 : Nat) : Int))
 cnd ((n % 6) == 5)
 (ite2 ((turn % ((2 : Nat) : Int)) == 0)
 -- THEN
 (ite2 (x0 == 0)
 -- THEN
 (K (AV.bool Bool.true) [])
 -- ELSE
 (ite2 (x0 == 1)
 -- THEN
 (K (AV.bool Bool.true) [])
 -- ELSE
 (K (AV.bool Bool.true) [])))
 -- ELSE
 (ite2 (x0 == 0)
 -- THEN
 (K (AV.bool Bool.true) [])
 -- ELSE
 (ite2 (x0 == 1)
 -- THEN
 (K (AV.bool Bool.true) [])
 -- ELSE
 (K (AV.bool Bool.true) []))))) := by kernel_rfl

end Go.Proofs.YtcnnogimaikicaaDoor
