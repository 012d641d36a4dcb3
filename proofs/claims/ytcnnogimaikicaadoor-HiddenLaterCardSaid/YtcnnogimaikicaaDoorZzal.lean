import Derived.Test.YtcnnogimaikicaaDoorZzaj
import Derived.Test.YtcnnogimaikicaaDoorZzak
set_option linter.unusedSimpArgs false
set_option linter.unusedVariables false
namespace Go.Proofs.YtcnnogimaikicaaDoor
open Go Go.V Go.Pat Go.Tm
set_option maxHeartbeats 0
set_option maxRecDepth 100000
theorem pof0_eq (n mask : Int) (K : AV → Heap → Prop) : walk Tryd.E R2 (pickK D2 0).C (fun _ _ => .unroll 12) 5 7 [.int .i64 n, .int .i64 mask] K = (
 let x0 : List AV := [AV.int .i64 1]
 let x1 : List AV := [AV.int .i64 1, AV.int .i64 7]
 let x2 : List AV := [AV.int .i64 2]
 let x3 : List AV := [AV.int .i64 1, AV.int .i64 2]
 cnd ((n % 6) == 0)
 (ite2 ((mask % 16) == 0)
 (K (AV.tup [AV.agg [AV.str [78, 78], AV.bool false, AV.vec false 1 [], AV.vec false 1 [], AV.vec false 1 [], AV.vec false 1 [AV.vec false 1 x0, AV.vec false 1 [AV.int .i64 1, AV.int .i64 3]]], AV.bool true]) [])
 (ite2 ((mask % 16) == 1)
 (K (AV.tup [AV.agg [AV.str [78, 78], AV.bool false, AV.vec false 1 [AV.int .i64 0], AV.vec false 1 [], AV.vec false 1 [], AV.vec false 1 [AV.vec false 1 [AV.int .i64 7, AV.int .i64 1], AV.vec false 1 [AV.int .i64 1, AV.int .i64 3]]], AV.bool true]) [])
 (ite2 ((mask % 16) == 2)
 (K (AV.tup [AV.agg [AV.str [78, 78], AV.bool false, AV.vec false 1 x0, AV.vec false 1 [], AV.vec false 1 [], AV.vec false 1 [AV.vec false 1 x1, AV.vec false 1 [AV.int .i64 1, AV.int .i64 3]]], AV.bool true]) [])
 (ite2 ((mask % 16) == 3)
 (K (AV.tup [AV.agg [AV.str [78, 78], AV.bool false, AV.vec false 1 [AV.int .i64 0, AV.int .i64 1], AV.vec false 1 [], AV.vec false 1 [], AV.vec false 1 [AV.vec false 1 [AV.int .i64 7, AV.int .i64 1, AV.int .i64 7], AV.vec false 1 [AV.int .i64 1, AV.int .i64 3]]], AV.bool true]) [])
 (ite2 ((mask % 16) == 4)
 (K (AV.tup [AV.agg [AV.str [78, 78], AV.bool false, AV.vec false 1 x2, AV.vec false 1 [], AV.vec false 1 [], AV.vec false 1 [AV.vec false 1 x0, AV.vec false 1 [AV.int .i64 1, AV.int .i64 3, AV.int .i64 7]]], AV.bool true]) [])
 (ite2 ((mask % 16) == 5)
 (K (AV.tup [AV.agg [AV.str [78, 78], AV.bool false, AV.vec false 1 [AV.int .i64 0, AV.int .i64 2], AV.vec false 1 [], AV.vec false 1 [], AV.vec false 1 [AV.vec false 1 [AV.int .i64 7, AV.int .i64 1], AV.vec false 1 [AV.int .i64 1, AV.int .i64 3, AV.int .i64 7]]], AV.bool true]) [])
 (ite2 ((mask % 16) == 6)
 (K (AV.tup [AV.agg [AV.str [78, 78], AV.bool false, AV.vec false 1 x3, AV.vec false 1 [], AV.vec false 1 [], AV.vec false 1 [AV.vec false 1 x1, AV.vec false 1 [AV.int .i64 1, AV.int .i64 3, AV.int .i64 7]]], AV.bool true]) [])
 (ite2 ((mask % 16) == 7)
 (K (AV.tup [AV.agg [AV.str [78, 78], AV.bool false, AV.vec false 1 [AV.int .i64 0, AV.int .i64 1, AV.int .i64 2], AV.vec false 1 [], AV.vec false 1 [], AV.vec false 1 [AV.vec false 1 [AV.int .i64 7, AV.int .i64 1, AV.int .i64 7], AV.vec false 1 [AV.int .i64 1, AV.int .i64 3, AV.int .i64 7]]], AV.bool true]) [])
 (ite2 ((mask % 16) == 8)
 (K (AV.tup [AV.agg [AV.str [78, 78], AV.bool false, AV.vec false 1 [], AV.vec false 1 [], AV.vec false 1 [], AV.vec false 1 [AV.vec false 1 x0, AV.vec false 1 [AV.int .i64 1, AV.int .i64 3]]], AV.bool true]) [])
 (ite2 ((mask % 16) == 9)
 (K (AV.tup [AV.agg [AV.str [78, 78], AV.bool false, AV.vec false 1 [AV.int .i64 0], AV.vec false 1 [], AV.vec false 1 [], AV.vec false 1 [AV.vec false 1 [AV.int .i64 7, AV.int .i64 1], AV.vec false 1 [AV.int .i64 1, AV.int .i64 3]]], AV.bool true]) [])
 (ite2 ((mask % 16) == 10)
 (K (AV.tup [AV.agg [AV.str [78, 78], AV.bool false, AV.vec false 1 x0, AV.vec false 1 [], AV.vec false 1 [], AV.vec false 1 [AV.vec false 1 x1, AV.vec false 1 [AV.int .i64 1, AV.int .i64 3]]], AV.bool true]) [])
 (ite2 ((mask % 16) == 11)
 (K (AV.tup [AV.agg [AV.str [78, 78], AV.bool false, AV.vec false 1 [AV.int .i64 0, AV.int .i64 1], AV.vec false 1 [], AV.vec false 1 [], AV.vec false 1 [AV.vec false 1 [AV.int .i64 7, AV.int .i64 1, AV.int .i64 7], AV.vec false 1 [AV.int .i64 1, AV.int .i64 3]]], AV.bool true]) [])
 (ite2 ((mask % 16) == 12)
 (K (AV.tup [AV.agg [AV.str [78, 78], AV.bool false, AV.vec false 1 x2, AV.vec false 1 [], AV.vec false 1 [], AV.vec false 1 [AV.vec false 1 x0, AV.vec false 1 [AV.int .i64 1, AV.int .i64 3, AV.int .i64 7]]], AV.bool true]) [])
 (ite2 ((mask % 16) == 13)
 (K (AV.tup [AV.agg [AV.str [78, 78], AV.bool false, AV.vec false 1 [AV.int .i64 0, AV.int .i64 2], AV.vec false 1 [], AV.vec false 1 [], AV.vec false 1 [AV.vec false 1 [AV.int .i64 7, AV.int .i64 1], AV.vec false 1 [AV.int .i64 1, AV.int .i64 3, AV.int .i64 7]]], AV.bool true]) [])
 (ite2 ((mask % 16) == 14)
 (K (AV.tup [AV.agg [AV.str [78, 78], AV.bool false, AV.vec false 1 x3, AV.vec false 1 [], AV.vec false 1 [], AV.vec false 1 [AV.vec false 1 x1, AV.vec false 1 [AV.int .i64 1, AV.int .i64 3, AV.int .i64 7]]], AV.bool true]) [])
 (K (AV.tup [AV.agg [AV.str [78, 78], AV.bool false, AV.vec false 1 [AV.int .i64 0, AV.int .i64 1, AV.int .i64 2], AV.vec false 1 [], AV.vec false 1 [], AV.vec false 1 [AV.vec false 1 [AV.int .i64 7, AV.int .i64 1, AV.int .i64 7], AV.vec false 1 [AV.int .i64 1, AV.int .i64 3, AV.int .i64 7]]], AV.bool true]) []))))))))))))))))) := by kernel_rfl
theorem pof1_eq (n mask : Int) (K : AV → Heap → Prop) : walk Tryd.E R2 (pickK D2 1).C (fun _ _ => .unroll 12) 5 7 [.int .i64 n, .int .i64 mask] K = (
 let x0 : List AV := [AV.int .i64 2]
 let x1 : List AV := [AV.int .i64 1, AV.int .i64 4]
 let x2 : List AV := [AV.int .i64 1]
 let x3 : List AV := [AV.int .i64 1, AV.int .i64 4, AV.int .i64 7]
 let x4 : List AV := [AV.int .i64 1, AV.int .i64 2]
 cnd ((n % 6) == 1)
 (ite2 ((mask % 16) == 0)
 (K (AV.tup [AV.agg [AV.str [78, 75], AV.bool false, AV.vec false 1 [], AV.vec false 1 [], AV.vec false 1 x0, AV.vec false 1 [AV.vec false 1 x1, AV.vec false 1 [AV.int .i64 1, AV.int .i64 3]]], AV.bool true]) [])
 (ite2 ((mask % 16) == 1)
 (K (AV.tup [AV.agg [AV.str [78, 75], AV.bool false, AV.vec false 1 [AV.int .i64 0], AV.vec false 1 [], AV.vec false 1 x0, AV.vec false 1 [AV.vec false 1 [AV.int .i64 7, AV.int .i64 1, AV.int .i64 4], AV.vec false 1 [AV.int .i64 1, AV.int .i64 3]]], AV.bool true]) [])
 (ite2 ((mask % 16) == 2)
 (K (AV.tup [AV.agg [AV.str [78, 75], AV.bool false, AV.vec false 1 x2, AV.vec false 1 [], AV.vec false 1 x0, AV.vec false 1 [AV.vec false 1 x3, AV.vec false 1 [AV.int .i64 1, AV.int .i64 3]]], AV.bool true]) [])
 (ite2 ((mask % 16) == 3)
 (K (AV.tup [AV.agg [AV.str [78, 75], AV.bool false, AV.vec false 1 [AV.int .i64 0, AV.int .i64 1], AV.vec false 1 [], AV.vec false 1 x0, AV.vec false 1 [AV.vec false 1 [AV.int .i64 7, AV.int .i64 1, AV.int .i64 4, AV.int .i64 7], AV.vec false 1 [AV.int .i64 1, AV.int .i64 3]]], AV.bool true]) [])
 (ite2 ((mask % 16) == 4)
 (K (AV.tup [AV.agg [AV.str [78, 75], AV.bool false, AV.vec false 1 x0, AV.vec false 1 [], AV.vec false 1 x0, AV.vec false 1 [AV.vec false 1 x1, AV.vec false 1 [AV.int .i64 1, AV.int .i64 3, AV.int .i64 7]]], AV.bool true]) [])
 (ite2 ((mask % 16) == 5)
 (K (AV.tup [AV.agg [AV.str [78, 75], AV.bool false, AV.vec false 1 [AV.int .i64 0, AV.int .i64 2], AV.vec false 1 [], AV.vec false 1 x0, AV.vec false 1 [AV.vec false 1 [AV.int .i64 7, AV.int .i64 1, AV.int .i64 4], AV.vec false 1 [AV.int .i64 1, AV.int .i64 3, AV.int .i64 7]]], AV.bool true]) [])
 (ite2 ((mask % 16) == 6)
 (K (AV.tup [AV.agg [AV.str [78, 75], AV.bool false, AV.vec false 1 x4, AV.vec false 1 [], AV.vec false 1 x0, AV.vec false 1 [AV.vec false 1 x3, AV.vec false 1 [AV.int .i64 1, AV.int .i64 3, AV.int .i64 7]]], AV.bool true]) [])
 (ite2 ((mask % 16) == 7)
 (K (AV.tup [AV.agg [AV.str [78, 75], AV.bool false, AV.vec false 1 [AV.int .i64 0, AV.int .i64 1, AV.int .i64 2], AV.vec false 1 [], AV.vec false 1 x0, AV.vec false 1 [AV.vec false 1 [AV.int .i64 7, AV.int .i64 1, AV.int .i64 4, AV.int .i64 7], AV.vec false 1 [AV.int .i64 1, AV.int .i64 3, AV.int .i64 7]]], AV.bool true]) [])
 (ite2 ((mask % 16) == 8)
 (K (AV.tup [AV.agg [AV.str [78, 75], AV.bool false, AV.vec false 1 [], AV.vec false 1 [], AV.vec false 1 x0, AV.vec false 1 [AV.vec false 1 x1, AV.vec false 1 [AV.int .i64 1, AV.int .i64 3]]], AV.bool true]) [])
 (ite2 ((mask % 16) == 9)
 (K (AV.tup [AV.agg [AV.str [78, 75], AV.bool false, AV.vec false 1 [AV.int .i64 0], AV.vec false 1 [], AV.vec false 1 x0, AV.vec false 1 [AV.vec false 1 [AV.int .i64 7, AV.int .i64 1, AV.int .i64 4], AV.vec false 1 [AV.int .i64 1, AV.int .i64 3]]], AV.bool true]) [])
 (ite2 ((mask % 16) == 10)
 (K (AV.tup [AV.agg [AV.str [78, 75], AV.bool false, AV.vec false 1 x2, AV.vec false 1 [], AV.vec false 1 x0, AV.vec false 1 [AV.vec false 1 x3, AV.vec false 1 [AV.int .i64 1, AV.int .i64 3]]], AV.bool true]) [])
 (ite2 ((mask % 16) == 11)
 (K (AV.tup [AV.agg [AV.str [78, 75], AV.bool false, AV.vec false 1 [AV.int .i64 0, AV.int .i64 1], AV.vec false 1 [], AV.vec false 1 x0, AV.vec false 1 [AV.vec false 1 [AV.int .i64 7, AV.int .i64 1, AV.int .i64 4, AV.int .i64 7], AV.vec false 1 [AV.int .i64 1, AV.int .i64 3]]], AV.bool true]) [])
 (ite2 ((mask % 16) == 12)
 (K (AV.tup [AV.agg [AV.str [78, 75], AV.bool false, AV.vec false 1 x0, AV.vec false 1 [], AV.vec false 1 x0, AV.vec false 1 [AV.vec false 1 x1, AV.vec false 1 [AV.int .i64 1, AV.int .i64 3, AV.int .i64 7]]], AV.bool true]) [])
 (ite2 ((mask % 16) == 13)
 (K (AV.tup [AV.agg [AV.str [78, 75], AV.bool false, AV.vec false 1 [AV.int .i64 0, AV.int .i64 2], AV.vec false 1 [], AV.vec false 1 x0, AV.vec false 1 [AV.vec false 1 [AV.int .i64 7, AV.int .i64 1, AV.int .i64 4], AV.vec false 1 [AV.int .i64 1, AV.int .i64 3, AV.int .i64 7]]], AV.bool true]) [])
 (ite2 ((mask % 16) == 14)
 (K (AV.tup [AV.agg [AV.str [78, 75], AV.bool false, AV.vec false 1 x4, AV.vec false 1 [], AV.vec false 1 x0, AV.vec false 1 [AV.vec false 1 x3, AV.vec false 1 [AV.int .i64 1, AV.int .i64 3, AV.int .i64 7]]], AV.bool true]) [])
 (K (AV.tup [AV.agg [AV.str [78, 75], AV.bool false, AV.vec false 1 [AV.int .i64 0, AV.int .i64 1, AV.int .i64 2], AV.vec false 1 [], AV.vec false 1 x0, AV.vec false 1 [AV.vec false 1 [AV.int .i64 7, AV.int .i64 1, AV.int .i64 4, AV.int .i64 7], AV.vec false 1 [AV.int .i64 1, AV.int .i64 3, AV.int .i64 7]]], AV.bool true]) []))))))))))))))))) := by kernel_rfl
theorem pof2_eq (n mask : Int) (K : AV → Heap → Prop) : walk Tryd.E R2 (pickK D2 2).C (fun _ _ => .unroll 12) 5 7 [.int .i64 n, .int .i64 mask] K = (
 let x0 : List AV := [AV.int .i64 1]
 let x1 : List AV := [AV.int .i64 1, AV.int .i64 7]
 let x2 : List AV := [AV.int .i64 2]
 let x3 : List AV := [AV.int .i64 1, AV.int .i64 2]
 let x4 : List AV := [AV.int .i64 3]
 let x5 : List AV := [AV.int .i64 1, AV.int .i64 3]
 let x6 : List AV := [AV.int .i64 2, AV.int .i64 3]
 let x7 : List AV := [AV.int .i64 1, AV.int .i64 2, AV.int .i64 3]
 cnd ((n % 6) == 2)
 (ite2 ((mask % 16) == 0)
 (K (AV.tup [AV.agg [AV.str [88, 88], AV.bool false, AV.vec false 1 [], AV.vec false 1 [], AV.vec false 1 [], AV.vec false 1 [AV.vec false 1 x0, AV.vec false 1 [AV.int .i64 1, AV.int .i64 3, AV.int .i64 2, AV.int .i64 4], AV.vec false 1 [AV.int .i64 2, AV.int .i64 5]]], AV.bool true]) [])
 (ite2 ((mask % 16) == 1)
 (K (AV.tup [AV.agg [AV.str [88, 88], AV.bool false, AV.vec false 1 [AV.int .i64 0], AV.vec false 1 [], AV.vec false 1 [], AV.vec false 1 [AV.vec false 1 [AV.int .i64 7, AV.int .i64 1], AV.vec false 1 [AV.int .i64 1, AV.int .i64 3, AV.int .i64 2, AV.int .i64 4], AV.vec false 1 [AV.int .i64 2, AV.int .i64 5]]], AV.bool true]) [])
 (ite2 ((mask % 16) == 2)
 (K (AV.tup [AV.agg [AV.str [88, 88], AV.bool false, AV.vec false 1 x0, AV.vec false 1 [], AV.vec false 1 [], AV.vec false 1 [AV.vec false 1 x1, AV.vec false 1 [AV.int .i64 1, AV.int .i64 3, AV.int .i64 2, AV.int .i64 4], AV.vec false 1 [AV.int .i64 2, AV.int .i64 5]]], AV.bool true]) [])
 (ite2 ((mask % 16) == 3)
 (K (AV.tup [AV.agg [AV.str [88, 88], AV.bool false, AV.vec false 1 [AV.int .i64 0, AV.int .i64 1], AV.vec false 1 [], AV.vec false 1 [], AV.vec false 1 [AV.vec false 1 [AV.int .i64 7, AV.int .i64 1, AV.int .i64 7], AV.vec false 1 [AV.int .i64 1, AV.int .i64 3, AV.int .i64 2, AV.int .i64 4], AV.vec false 1 [AV.int .i64 2, AV.int .i64 5]]], AV.bool true]) [])
 (ite2 ((mask % 16) == 4)
 (K (AV.tup [AV.agg [AV.str [88, 88], AV.bool false, AV.vec false 1 x2, AV.vec false 1 [], AV.vec false 1 [], AV.vec false 1 [AV.vec false 1 x0, AV.vec false 1 [AV.int .i64 1, AV.int .i64 3, AV.int .i64 2, AV.int .i64 4, AV.int .i64 7], AV.vec false 1 [AV.int .i64 2, AV.int .i64 5]]], AV.bool true]) [])
 (ite2 ((mask % 16) == 5)
 (K (AV.tup [AV.agg [AV.str [88, 88], AV.bool false, AV.vec false 1 [AV.int .i64 0, AV.int .i64 2], AV.vec false 1 [], AV.vec false 1 [], AV.vec false 1 [AV.vec false 1 [AV.int .i64 7, AV.int .i64 1], AV.vec false 1 [AV.int .i64 1, AV.int .i64 3, AV.int .i64 2, AV.int .i64 4, AV.int .i64 7], AV.vec false 1 [AV.int .i64 2, AV.int .i64 5]]], AV.bool true]) [])
 (ite2 ((mask % 16) == 6)
 (K (AV.tup [AV.agg [AV.str [88, 88], AV.bool false, AV.vec false 1 x3, AV.vec false 1 [], AV.vec false 1 [], AV.vec false 1 [AV.vec false 1 x1, AV.vec false 1 [AV.int .i64 1, AV.int .i64 3, AV.int .i64 2, AV.int .i64 4, AV.int .i64 7], AV.vec false 1 [AV.int .i64 2, AV.int .i64 5]]], AV.bool true]) [])
 (ite2 ((mask % 16) == 7)
 (K (AV.tup [AV.agg [AV.str [88, 88], AV.bool false, AV.vec false 1 [AV.int .i64 0, AV.int .i64 1, AV.int .i64 2], AV.vec false 1 [], AV.vec false 1 [], AV.vec false 1 [AV.vec false 1 [AV.int .i64 7, AV.int .i64 1, AV.int .i64 7], AV.vec false 1 [AV.int .i64 1, AV.int .i64 3, AV.int .i64 2, AV.int .i64 4, AV.int .i64 7], AV.vec false 1 [AV.int .i64 2, AV.int .i64 5]]], AV.bool true]) [])
 (ite2 ((mask % 16) == 8)
 (K (AV.tup [AV.agg [AV.str [88, 88], AV.bool false, AV.vec false 1 x4, AV.vec false 1 [], AV.vec false 1 [], AV.vec false 1 [AV.vec false 1 x0, AV.vec false 1 [AV.int .i64 1, AV.int .i64 3, AV.int .i64 2, AV.int .i64 4], AV.vec false 1 [AV.int .i64 2, AV.int .i64 5, AV.int .i64 7]]], AV.bool true]) [])
 (ite2 ((mask % 16) == 9)
 (K (AV.tup [AV.agg [AV.str [88, 88], AV.bool false, AV.vec false 1 [AV.int .i64 0, AV.int .i64 3], AV.vec false 1 [], AV.vec false 1 [], AV.vec false 1 [AV.vec false 1 [AV.int .i64 7, AV.int .i64 1], AV.vec false 1 [AV.int .i64 1, AV.int .i64 3, AV.int .i64 2, AV.int .i64 4], AV.vec false 1 [AV.int .i64 2, AV.int .i64 5, AV.int .i64 7]]], AV.bool true]) [])
 (ite2 ((mask % 16) == 10)
 (K (AV.tup [AV.agg [AV.str [88, 88], AV.bool false, AV.vec false 1 x5, AV.vec false 1 [], AV.vec false 1 [], AV.vec false 1 [AV.vec false 1 x1, AV.vec false 1 [AV.int .i64 1, AV.int .i64 3, AV.int .i64 2, AV.int .i64 4], AV.vec false 1 [AV.int .i64 2, AV.int .i64 5, AV.int .i64 7]]], AV.bool true]) [])
 (ite2 ((mask % 16) == 11)
 (K (AV.tup [AV.agg [AV.str [88, 88], AV.bool false, AV.vec false 1 [AV.int .i64 0, AV.int .i64 1, AV.int .i64 3], AV.vec false 1 [], AV.vec false 1 [], AV.vec false 1 [AV.vec false 1 [AV.int .i64 7, AV.int .i64 1, AV.int .i64 7], AV.vec false 1 [AV.int .i64 1, AV.int .i64 3, AV.int .i64 2, AV.int .i64 4], AV.vec false 1 [AV.int .i64 2, AV.int .i64 5, AV.int .i64 7]]], AV.bool true]) [])
 (ite2 ((mask % 16) == 12)
 (K (AV.tup [AV.agg [AV.str [88, 88], AV.bool false, AV.vec false 1 x6, AV.vec false 1 [], AV.vec false 1 [], AV.vec false 1 [AV.vec false 1 x0, AV.vec false 1 [AV.int .i64 1, AV.int .i64 3, AV.int .i64 2, AV.int .i64 4, AV.int .i64 7], AV.vec false 1 [AV.int .i64 2, AV.int .i64 5, AV.int .i64 7]]], AV.bool true]) [])
 (ite2 ((mask % 16) == 13)
 (K (AV.tup [AV.agg [AV.str [88, 88], AV.bool false, AV.vec false 1 [AV.int .i64 0, AV.int .i64 2, AV.int .i64 3], AV.vec false 1 [], AV.vec false 1 [], AV.vec false 1 [AV.vec false 1 [AV.int .i64 7, AV.int .i64 1], AV.vec false 1 [AV.int .i64 1, AV.int .i64 3, AV.int .i64 2, AV.int .i64 4, AV.int .i64 7], AV.vec false 1 [AV.int .i64 2, AV.int .i64 5, AV.int .i64 7]]], AV.bool true]) [])
 (ite2 ((mask % 16) == 14)
 (K (AV.tup [AV.agg [AV.str [88, 88], AV.bool false, AV.vec false 1 x7, AV.vec false 1 [], AV.vec false 1 [], AV.vec false 1 [AV.vec false 1 x1, AV.vec false 1 [AV.int .i64 1, AV.int .i64 3, AV.int .i64 2, AV.int .i64 4, AV.int .i64 7], AV.vec false 1 [AV.int .i64 2, AV.int .i64 5, AV.int .i64 7]]], AV.bool true]) [])
 (K (AV.tup [AV.agg [AV.str [88, 88], AV.bool false, AV.vec false 1 [AV.int .i64 0, AV.int .i64 1, AV.int .i64 2, AV.int .i64 3], AV.vec false 1 [], AV.vec false 1 [], AV.vec false 1 [AV.vec false 1 [AV.int .i64 7, AV.int .i64 1, AV.int .i64 7], AV.vec false 1 [AV.int .i64 1, AV.int .i64 3, AV.int .i64 2, AV.int .i64 4, AV.int .i64 7], AV.vec false 1 [AV.int .i64 2, AV.int .i64 5, AV.int .i64 7]]], AV.bool true]) []))))))))))))))))) := by kernel_rfl
theorem pof3_eq (n mask : Int) (K : AV → Heap → Prop) : walk Tryd.E R2 (pickK D2 3).C (fun _ _ => .unroll 12) 5 7 [.int .i64 n, .int .i64 mask] K = (
 let x0 : List AV := [AV.int .i64 2]
 let x1 : List AV := [AV.int .i64 1, AV.int .i64 4, AV.int .i64 2, AV.int .i64 6]
 let x2 : List AV := [AV.int .i64 1]
 let x3 : List AV := [AV.int .i64 1, AV.int .i64 4, AV.int .i64 2, AV.int .i64 6, AV.int .i64 7]
 let x4 : List AV := [AV.int .i64 1, AV.int .i64 2]
 cnd ((n % 6) == 3)
 (ite2 ((mask % 16) == 0)
 (K (AV.tup [AV.agg [AV.str [73, 75], AV.bool false, AV.vec false 1 [], AV.vec false 1 [], AV.vec false 1 x0, AV.vec false 1 [AV.vec false 1 x1, AV.vec false 1 [AV.int .i64 1, AV.int .i64 3, AV.int .i64 5]]], AV.bool true]) [])
 (ite2 ((mask % 16) == 1)
 (K (AV.tup [AV.agg [AV.str [73, 75], AV.bool false, AV.vec false 1 [AV.int .i64 0], AV.vec false 1 [], AV.vec false 1 x0, AV.vec false 1 [AV.vec false 1 [AV.int .i64 7, AV.int .i64 1, AV.int .i64 4, AV.int .i64 2, AV.int .i64 6], AV.vec false 1 [AV.int .i64 1, AV.int .i64 3, AV.int .i64 5]]], AV.bool true]) [])
 (ite2 ((mask % 16) == 2)
 (K (AV.tup [AV.agg [AV.str [73, 75], AV.bool false, AV.vec false 1 x2, AV.vec false 1 [], AV.vec false 1 x0, AV.vec false 1 [AV.vec false 1 x3, AV.vec false 1 [AV.int .i64 1, AV.int .i64 3, AV.int .i64 5]]], AV.bool true]) [])
 (ite2 ((mask % 16) == 3)
 (K (AV.tup [AV.agg [AV.str [73, 75], AV.bool false, AV.vec false 1 [AV.int .i64 0, AV.int .i64 1], AV.vec false 1 [], AV.vec false 1 x0, AV.vec false 1 [AV.vec false 1 [AV.int .i64 7, AV.int .i64 1, AV.int .i64 4, AV.int .i64 2, AV.int .i64 6, AV.int .i64 7], AV.vec false 1 [AV.int .i64 1, AV.int .i64 3, AV.int .i64 5]]], AV.bool true]) [])
 (ite2 ((mask % 16) == 4)
 (K (AV.tup [AV.agg [AV.str [73, 75], AV.bool false, AV.vec false 1 x0, AV.vec false 1 [], AV.vec false 1 x0, AV.vec false 1 [AV.vec false 1 x1, AV.vec false 1 [AV.int .i64 1, AV.int .i64 3, AV.int .i64 5, AV.int .i64 7]]], AV.bool true]) [])
 (ite2 ((mask % 16) == 5)
 (K (AV.tup [AV.agg [AV.str [73, 75], AV.bool false, AV.vec false 1 [AV.int .i64 0, AV.int .i64 2], AV.vec false 1 [], AV.vec false 1 x0, AV.vec false 1 [AV.vec false 1 [AV.int .i64 7, AV.int .i64 1, AV.int .i64 4, AV.int .i64 2, AV.int .i64 6], AV.vec false 1 [AV.int .i64 1, AV.int .i64 3, AV.int .i64 5, AV.int .i64 7]]], AV.bool true]) [])
 (ite2 ((mask % 16) == 6)
 (K (AV.tup [AV.agg [AV.str [73, 75], AV.bool false, AV.vec false 1 x4, AV.vec false 1 [], AV.vec false 1 x0, AV.vec false 1 [AV.vec false 1 x3, AV.vec false 1 [AV.int .i64 1, AV.int .i64 3, AV.int .i64 5, AV.int .i64 7]]], AV.bool true]) [])
 (ite2 ((mask % 16) == 7)
 (K (AV.tup [AV.agg [AV.str [73, 75], AV.bool false, AV.vec false 1 [AV.int .i64 0, AV.int .i64 1, AV.int .i64 2], AV.vec false 1 [], AV.vec false 1 x0, AV.vec false 1 [AV.vec false 1 [AV.int .i64 7, AV.int .i64 1, AV.int .i64 4, AV.int .i64 2, AV.int .i64 6, AV.int .i64 7], AV.vec false 1 [AV.int .i64 1, AV.int .i64 3, AV.int .i64 5, AV.int .i64 7]]], AV.bool true]) [])
 (ite2 ((mask % 16) == 8)
 (K (AV.tup [AV.agg [AV.str [73, 75], AV.bool false, AV.vec false 1 [], AV.vec false 1 [], AV.vec false 1 x0, AV.vec false 1 [AV.vec false 1 x1, AV.vec false 1 [AV.int .i64 1, AV.int .i64 3, AV.int .i64 5]]], AV.bool true]) [])
 (ite2 ((mask % 16) == 9)
 (K (AV.tup [AV.agg [AV.str [73, 75], AV.bool false, AV.vec false 1 [AV.int .i64 0], AV.vec false 1 [], AV.vec false 1 x0, AV.vec false 1 [AV.vec false 1 [AV.int .i64 7, AV.int .i64 1, AV.int .i64 4, AV.int .i64 2, AV.int .i64 6], AV.vec false 1 [AV.int .i64 1, AV.int .i64 3, AV.int .i64 5]]], AV.bool true]) [])
 (ite2 ((mask % 16) == 10)
 (K (AV.tup [AV.agg [AV.str [73, 75], AV.bool false, AV.vec false 1 x2, AV.vec false 1 [], AV.vec false 1 x0, AV.vec false 1 [AV.vec false 1 x3, AV.vec false 1 [AV.int .i64 1, AV.int .i64 3, AV.int .i64 5]]], AV.bool true]) [])
 (ite2 ((mask % 16) == 11)
 (K (AV.tup [AV.agg [AV.str [73, 75], AV.bool false, AV.vec false 1 [AV.int .i64 0, AV.int .i64 1], AV.vec false 1 [], AV.vec false 1 x0, AV.vec false 1 [AV.vec false 1 [AV.int .i64 7, AV.int .i64 1, AV.int .i64 4, AV.int .i64 2, AV.int .i64 6, AV.int .i64 7], AV.vec false 1 [AV.int .i64 1, AV.int .i64 3, AV.int .i64 5]]], AV.bool true]) [])
 (ite2 ((mask % 16) == 12)
 (K (AV.tup [AV.agg [AV.str [73, 75], AV.bool false, AV.vec false 1 x0, AV.vec false 1 [], AV.vec false 1 x0, AV.vec false 1 [AV.vec false 1 x1, AV.vec false 1 [AV.int .i64 1, AV.int .i64 3, AV.int .i64 5, AV.int .i64 7]]], AV.bool true]) [])
 (ite2 ((mask % 16) == 13)
 (K (AV.tup [AV.agg [AV.str [73, 75], AV.bool false, AV.vec false 1 [AV.int .i64 0, AV.int .i64 2], AV.vec false 1 [], AV.vec false 1 x0, AV.vec false 1 [AV.vec false 1 [AV.int .i64 7, AV.int .i64 1, AV.int .i64 4, AV.int .i64 2, AV.int .i64 6], AV.vec false 1 [AV.int .i64 1, AV.int .i64 3, AV.int .i64 5, AV.int .i64 7]]], AV.bool true]) [])
 (ite2 ((mask % 16) == 14)
 (K (AV.tup [AV.agg [AV.str [73, 75], AV.bool false, AV.vec false 1 x4, AV.vec false 1 [], AV.vec false 1 x0, AV.vec false 1 [AV.vec false 1 x3, AV.vec false 1 [AV.int .i64 1, AV.int .i64 3, AV.int .i64 5, AV.int .i64 7]]], AV.bool true]) [])
 (K (AV.tup [AV.agg [AV.str [73, 75], AV.bool false, AV.vec false 1 [AV.int .i64 0, AV.int .i64 1, AV.int .i64 2], AV.vec false 1 [], AV.vec false 1 x0, AV.vec false 1 [AV.vec false 1 [AV.int .i64 7, AV.int .i64 1, AV.int .i64 4, AV.int .i64 2, AV.int .i64 6, AV.int .i64 7], AV.vec false 1 [AV.int .i64 1, AV.int .i64 3, AV.int .i64 5, AV.int .i64 7]]], AV.bool true]) []))))))))))))))))) := by kernel_rfl
theorem pof4_eq (n mask : Int) (K : AV → Heap → Prop) : walk Tryd.E R2 (pickK D2 4).C (fun _ _ => .unroll 12) 5 7 [.int .i64 n, .int .i64 mask] K = (
 let x0 : List AV := [AV.int .i64 2]
 let x1 : List AV := [AV.int .i64 1, AV.int .i64 4]
 let x2 : List AV := [AV.int .i64 1, AV.int .i64 3]
 let x3 : List AV := [AV.int .i64 1]
 let x4 : List AV := [AV.int .i64 1, AV.int .i64 4, AV.int .i64 7]
 let x5 : List AV := [AV.int .i64 1, AV.int .i64 2]
 let x6 : List AV := [AV.int .i64 3]
 let x7 : List AV := [AV.int .i64 2, AV.int .i64 3]
 let x8 : List AV := [AV.int .i64 1, AV.int .i64 2, AV.int .i64 3]
 cnd ((n % 6) == 4)
 (ite2 ((mask % 16) == 0)
 (K (AV.tup [AV.agg [AV.str [88, 75], AV.bool false, AV.vec false 1 [], AV.vec false 1 [], AV.vec false 1 x0, AV.vec false 1 [AV.vec false 1 x1, AV.vec false 1 x2, AV.vec false 1 [AV.int .i64 2, AV.int .i64 5]]], AV.bool true]) [])
 (ite2 ((mask % 16) == 1)
 (K (AV.tup [AV.agg [AV.str [88, 75], AV.bool false, AV.vec false 1 [AV.int .i64 0], AV.vec false 1 [], AV.vec false 1 x0, AV.vec false 1 [AV.vec false 1 [AV.int .i64 7, AV.int .i64 1, AV.int .i64 4], AV.vec false 1 x2, AV.vec false 1 [AV.int .i64 2, AV.int .i64 5]]], AV.bool true]) [])
 (ite2 ((mask % 16) == 2)
 (K (AV.tup [AV.agg [AV.str [88, 75], AV.bool false, AV.vec false 1 x3, AV.vec false 1 [], AV.vec false 1 x0, AV.vec false 1 [AV.vec false 1 x4, AV.vec false 1 x2, AV.vec false 1 [AV.int .i64 2, AV.int .i64 5]]], AV.bool true]) [])
 (ite2 ((mask % 16) == 3)
 (K (AV.tup [AV.agg [AV.str [88, 75], AV.bool false, AV.vec false 1 [AV.int .i64 0, AV.int .i64 1], AV.vec false 1 [], AV.vec false 1 x0, AV.vec false 1 [AV.vec false 1 [AV.int .i64 7, AV.int .i64 1, AV.int .i64 4, AV.int .i64 7], AV.vec false 1 x2, AV.vec false 1 [AV.int .i64 2, AV.int .i64 5]]], AV.bool true]) [])
 (ite2 ((mask % 16) == 4)
 (K (AV.tup [AV.agg [AV.str [88, 75], AV.bool false, AV.vec false 1 x0, AV.vec false 1 [], AV.vec false 1 x0, AV.vec false 1 [AV.vec false 1 x1, AV.vec false 1 [AV.int .i64 1, AV.int .i64 3, AV.int .i64 7], AV.vec false 1 [AV.int .i64 2, AV.int .i64 5]]], AV.bool true]) [])
 (ite2 ((mask % 16) == 5)
 (K (AV.tup [AV.agg [AV.str [88, 75], AV.bool false, AV.vec false 1 [AV.int .i64 0, AV.int .i64 2], AV.vec false 1 [], AV.vec false 1 x0, AV.vec false 1 [AV.vec false 1 [AV.int .i64 7, AV.int .i64 1, AV.int .i64 4], AV.vec false 1 [AV.int .i64 1, AV.int .i64 3, AV.int .i64 7], AV.vec false 1 [AV.int .i64 2, AV.int .i64 5]]], AV.bool true]) [])
 (ite2 ((mask % 16) == 6)
 (K (AV.tup [AV.agg [AV.str [88, 75], AV.bool false, AV.vec false 1 x5, AV.vec false 1 [], AV.vec false 1 x0, AV.vec false 1 [AV.vec false 1 x4, AV.vec false 1 [AV.int .i64 1, AV.int .i64 3, AV.int .i64 7], AV.vec false 1 [AV.int .i64 2, AV.int .i64 5]]], AV.bool true]) [])
 (ite2 ((mask % 16) == 7)
 (K (AV.tup [AV.agg [AV.str [88, 75], AV.bool false, AV.vec false 1 [AV.int .i64 0, AV.int .i64 1, AV.int .i64 2], AV.vec false 1 [], AV.vec false 1 x0, AV.vec false 1 [AV.vec false 1 [AV.int .i64 7, AV.int .i64 1, AV.int .i64 4, AV.int .i64 7], AV.vec false 1 [AV.int .i64 1, AV.int .i64 3, AV.int .i64 7], AV.vec false 1 [AV.int .i64 2, AV.int .i64 5]]], AV.bool true]) [])
 (ite2 ((mask % 16) == 8)
 (K (AV.tup [AV.agg [AV.str [88, 75], AV.bool false, AV.vec false 1 x6, AV.vec false 1 [], AV.vec false 1 x0, AV.vec false 1 [AV.vec false 1 x1, AV.vec false 1 x2, AV.vec false 1 [AV.int .i64 2, AV.int .i64 5, AV.int .i64 7]]], AV.bool true]) [])
 (ite2 ((mask % 16) == 9)
 (K (AV.tup [AV.agg [AV.str [88, 75], AV.bool false, AV.vec false 1 [AV.int .i64 0, AV.int .i64 3], AV.vec false 1 [], AV.vec false 1 x0, AV.vec false 1 [AV.vec false 1 [AV.int .i64 7, AV.int .i64 1, AV.int .i64 4], AV.vec false 1 x2, AV.vec false 1 [AV.int .i64 2, AV.int .i64 5, AV.int .i64 7]]], AV.bool true]) [])
 (ite2 ((mask % 16) == 10)
 (K (AV.tup [AV.agg [AV.str [88, 75], AV.bool false, AV.vec false 1 x2, AV.vec false 1 [], AV.vec false 1 x0, AV.vec false 1 [AV.vec false 1 x4, AV.vec false 1 x2, AV.vec false 1 [AV.int .i64 2, AV.int .i64 5, AV.int .i64 7]]], AV.bool true]) [])
 (ite2 ((mask % 16) == 11)
 (K (AV.tup [AV.agg [AV.str [88, 75], AV.bool false, AV.vec false 1 [AV.int .i64 0, AV.int .i64 1, AV.int .i64 3], AV.vec false 1 [], AV.vec false 1 x0, AV.vec false 1 [AV.vec false 1 [AV.int .i64 7, AV.int .i64 1, AV.int .i64 4, AV.int .i64 7], AV.vec false 1 x2, AV.vec false 1 [AV.int .i64 2, AV.int .i64 5, AV.int .i64 7]]], AV.bool true]) [])
 (ite2 ((mask % 16) == 12)
 (K (AV.tup [AV.agg [AV.str [88, 75], AV.bool false, AV.vec false 1 x7, AV.vec false 1 [], AV.vec false 1 x0, AV.vec false 1 [AV.vec false 1 x1, AV.vec false 1 [AV.int .i64 1, AV.int .i64 3, AV.int .i64 7], AV.vec false 1 [AV.int .i64 2, AV.int .i64 5, AV.int .i64 7]]], AV.bool true]) [])
 (ite2 ((mask % 16) == 13)
 (K (AV.tup [AV.agg [AV.str [88, 75], AV.bool false, AV.vec false 1 [AV.int .i64 0, AV.int .i64 2, AV.int .i64 3], AV.vec false 1 [], AV.vec false 1 x0, AV.vec false 1 [AV.vec false 1 [AV.int .i64 7, AV.int .i64 1, AV.int .i64 4], AV.vec false 1 [AV.int .i64 1, AV.int .i64 3, AV.int .i64 7], AV.vec false 1 [AV.int .i64 2, AV.int .i64 5, AV.int .i64 7]]], AV.bool true]) [])
 (ite2 ((mask % 16) == 14)
 (K (AV.tup [AV.agg [AV.str [88, 75], AV.bool false, AV.vec false 1 x8, AV.vec false 1 [], AV.vec false 1 x0, AV.vec false 1 [AV.vec false 1 x4, AV.vec false 1 [AV.int .i64 1, AV.int .i64 3, AV.int .i64 7], AV.vec false 1 [AV.int .i64 2, AV.int .i64 5, AV.int .i64 7]]], AV.bool true]) [])
 (K (AV.tup [AV.agg [AV.str [88, 75], AV.bool false, AV.vec false 1 [AV.int .i64 0, AV.int .i64 1, AV.int .i64 2, AV.int .i64 3], AV.vec false 1 [], AV.vec false 1 x0, AV.vec false 1 [AV.vec false 1 [AV.int .i64 7, AV.int .i64 1, AV.int .i64 4, AV.int .i64 7], AV.vec false 1 [AV.int .i64 1, AV.int .i64 3, AV.int .i64 7], AV.vec false 1 [AV.int .i64 2, AV.int .i64 5, AV.int .i64 7]]], AV.bool true]) []))))))))))))))))) := by kernel_rfl
theorem pof5_eq (n mask : Int) (K : AV → Heap → Prop) : walk Tryd.E R2 (pickK D2 5).C (fun _ _ => .unroll 12) 5 7 [.int .i64 n, .int .i64 mask] K = (
 let x0 : List AV := [AV.int .i64 2]
 let x1 : List AV := [AV.int .i64 1, AV.int .i64 4, AV.int .i64 6]
 let x2 : List AV := [AV.int .i64 1]
 let x3 : List AV := [AV.int .i64 1, AV.int .i64 4, AV.int .i64 6, AV.int .i64 7]
 let x4 : List AV := [AV.int .i64 1, AV.int .i64 2]
 cnd ((n % 6) == 5)
 (ite2 ((mask % 16) == 0)
 (K (AV.tup [AV.agg [AV.str [75, 75], AV.bool false, AV.vec false 1 [], AV.vec false 1 x0, AV.vec false 1 x0, AV.vec false 1 [AV.vec false 1 x1, AV.vec false 1 [AV.int .i64 1, AV.int .i64 3, AV.int .i64 5]]], AV.bool true]) [])
 (ite2 ((mask % 16) == 1)
 (K (AV.tup [AV.agg [AV.str [75, 75], AV.bool false, AV.vec false 1 [AV.int .i64 0], AV.vec false 1 x0, AV.vec false 1 x0, AV.vec false 1 [AV.vec false 1 [AV.int .i64 7, AV.int .i64 1, AV.int .i64 4, AV.int .i64 6], AV.vec false 1 [AV.int .i64 1, AV.int .i64 3, AV.int .i64 5]]], AV.bool true]) [])
 (ite2 ((mask % 16) == 2)
 (K (AV.tup [AV.agg [AV.str [75, 75], AV.bool false, AV.vec false 1 x2, AV.vec false 1 x0, AV.vec false 1 x0, AV.vec false 1 [AV.vec false 1 x3, AV.vec false 1 [AV.int .i64 1, AV.int .i64 3, AV.int .i64 5]]], AV.bool true]) [])
 (ite2 ((mask % 16) == 3)
 (K (AV.tup [AV.agg [AV.str [75, 75], AV.bool false, AV.vec false 1 [AV.int .i64 0, AV.int .i64 1], AV.vec false 1 x0, AV.vec false 1 x0, AV.vec false 1 [AV.vec false 1 [AV.int .i64 7, AV.int .i64 1, AV.int .i64 4, AV.int .i64 6, AV.int .i64 7], AV.vec false 1 [AV.int .i64 1, AV.int .i64 3, AV.int .i64 5]]], AV.bool true]) [])
 (ite2 ((mask % 16) == 4)
 (K (AV.tup [AV.agg [AV.str [75, 75], AV.bool false, AV.vec false 1 x0, AV.vec false 1 x0, AV.vec false 1 x0, AV.vec false 1 [AV.vec false 1 x1, AV.vec false 1 [AV.int .i64 1, AV.int .i64 3, AV.int .i64 5, AV.int .i64 7]]], AV.bool true]) [])
 (ite2 ((mask % 16) == 5)
 (K (AV.tup [AV.agg [AV.str [75, 75], AV.bool false, AV.vec false 1 [AV.int .i64 0, AV.int .i64 2], AV.vec false 1 x0, AV.vec false 1 x0, AV.vec false 1 [AV.vec false 1 [AV.int .i64 7, AV.int .i64 1, AV.int .i64 4, AV.int .i64 6], AV.vec false 1 [AV.int .i64 1, AV.int .i64 3, AV.int .i64 5, AV.int .i64 7]]], AV.bool true]) [])
 (ite2 ((mask % 16) == 6)
 (K (AV.tup [AV.agg [AV.str [75, 75], AV.bool false, AV.vec false 1 x4, AV.vec false 1 x0, AV.vec false 1 x0, AV.vec false 1 [AV.vec false 1 x3, AV.vec false 1 [AV.int .i64 1, AV.int .i64 3, AV.int .i64 5, AV.int .i64 7]]], AV.bool true]) [])
 (ite2 ((mask % 16) == 7)
 (K (AV.tup [AV.agg [AV.str [75, 75], AV.bool false, AV.vec false 1 [AV.int .i64 0, AV.int .i64 1, AV.int .i64 2], AV.vec false 1 x0, AV.vec false 1 x0, AV.vec false 1 [AV.vec false 1 [AV.int .i64 7, AV.int .i64 1, AV.int .i64 4, AV.int .i64 6, AV.int .i64 7], AV.vec false 1 [AV.int .i64 1, AV.int .i64 3, AV.int .i64 5, AV.int .i64 7]]], AV.bool true]) [])
 (ite2 ((mask % 16) == 8)
 (K (AV.tup [AV.agg [AV.str [75, 75], AV.bool false, AV.vec false 1 [], AV.vec false 1 x0, AV.vec false 1 x0, AV.vec false 1 [AV.vec false 1 x1, AV.vec false 1 [AV.int .i64 1, AV.int .i64 3, AV.int .i64 5]]], AV.bool true]) [])
 (ite2 ((mask % 16) == 9)
 (K (AV.tup [AV.agg [AV.str [75, 75], AV.bool false, AV.vec false 1 [AV.int .i64 0], AV.vec false 1 x0, AV.vec false 1 x0, AV.vec false 1 [AV.vec false 1 [AV.int .i64 7, AV.int .i64 1, AV.int .i64 4, AV.int .i64 6], AV.vec false 1 [AV.int .i64 1, AV.int .i64 3, AV.int .i64 5]]], AV.bool true]) [])
 (ite2 ((mask % 16) == 10)
 (K (AV.tup [AV.agg [AV.str [75, 75], AV.bool false, AV.vec false 1 x2, AV.vec false 1 x0, AV.vec false 1 x0, AV.vec false 1 [AV.vec false 1 x3, AV.vec false 1 [AV.int .i64 1, AV.int .i64 3, AV.int .i64 5]]], AV.bool true]) [])
 (ite2 ((mask % 16) == 11)
 (K (AV.tup [AV.agg [AV.str [75, 75], AV.bool false, AV.vec false 1 [AV.int .i64 0, AV.int .i64 1], AV.vec false 1 x0, AV.vec false 1 x0, AV.vec false 1 [AV.vec false 1 [AV.int .i64 7, AV.int .i64 1, AV.int .i64 4, AV.int .i64 6, AV.int .i64 7], AV.vec false 1 [AV.int .i64 1, AV.int .i64 3, AV.int .i64 5]]], AV.bool true]) [])
 (ite2 ((mask % 16) == 12)
 (K (AV.tup [AV.agg [AV.str [75, 75], AV.bool false, AV.vec false 1 x0, AV.vec false 1 x0, AV.vec false 1 x0, AV.vec false 1 [AV.vec false 1 x1, AV.vec false 1 [AV.int .i64 1, AV.int .i64 3, AV.int .i64 5, AV.int .i64 7]]], AV.bool true]) [])
 (ite2 ((mask % 16) == 13)
 (K (AV.tup [AV.agg [AV.str [75, 75], AV.bool false, AV.vec false 1 [AV.int .i64 0, AV.int .i64 2], AV.vec false 1 x0, AV.vec false 1 x0, AV.vec false 1 [AV.vec false 1 [AV.int .i64 7, AV.int .i64 1, AV.int .i64 4, AV.int .i64 6], AV.vec false 1 [AV.int .i64 1, AV.int .i64 3, AV.int .i64 5, AV.int .i64 7]]], AV.bool true]) [])
 (ite2 ((mask % 16) == 14)
 (K (AV.tup [AV.agg [AV.str [75, 75], AV.bool false, AV.vec false 1 x4, AV.vec false 1 x0, AV.vec false 1 x0, AV.vec false 1 [AV.vec false 1 x3, AV.vec false 1 [AV.int .i64 1, AV.int .i64 3, AV.int .i64 5, AV.int .i64 7]]], AV.bool true]) [])
 (K (AV.tup [AV.agg [AV.str [75, 75], AV.bool false, AV.vec false 1 [AV.int .i64 0, AV.int .i64 1, AV.int .i64 2], AV.vec false 1 x0, AV.vec false 1 x0, AV.vec false 1 [AV.vec false 1 [AV.int .i64 7, AV.int .i64 1, AV.int .i64 4, AV.int .i64 6, AV.int .i64 7], AV.vec false 1 [AV.int .i64 1, AV.int .i64 3, AV.int .i64 5, AV.int .i64 7]]], AV.bool true]) []))))))))))))))))) := by kernel_rfl
def baseN (k : Int) : List UInt8 := if k = 0 then [78, 78] else if k = 1 then [78, 75] else if k = 2 then [88, 88] else if k = 3 then [73, 75] else if k = 4 then [88, 75] else [75, 75]
def patF (k m : Int) : Pat := withP (baseN k) (plL (if k = 2 ∨ k = 4 then 3 else 2) m)
noncomputable def patS : Int → Int → Pat := (sealed fun n mask => patF (n % 6) (mask % 16)).val
theorem patS_eq (n mask : Int) : patS n mask = patF (n % 6) (mask % 16) := by rw [patS, (sealed fun n mask => patF (n % 6) (mask % 16)).property]
theorem patF_tab : ((List.range 6).all fun (k : Nat) => (List.range 16).all fun (m : Nat) => tabH.contains (patF (k : Int) (m : Int))) = true := by kernel_rfl
theorem patS_tab (n mask : Int) : patS n mask ∈ tabH := by
 have h1 := Int.emod_nonneg n (show (6 : Int) ≠ 0 by decide)
 have h2 := Int.emod_lt_of_pos n (show (0 : Int) < 6 by decide)
 have h3 := Int.emod_nonneg mask (show (16 : Int) ≠ 0 by decide)
 have h4 := Int.emod_lt_of_pos mask (show (0 : Int) < 16 by decide)
 rw [patS_eq]
 have := List.all_eq_true.1 patF_tab (n % 6).toNat (List.mem_range.2 (by omega))
 have := List.all_eq_true.1 this (mask % 16).toNat (List.mem_range.2 (by omega))
 rw [Int.toNat_of_nonneg h1, Int.toNat_of_nonneg h3] at this
 exact List.contains_iff_mem.1 this
theorem pof_leaf {n mask k m : Int} {l : List AV} (hk : n % 6 = k) (hm : mask % 16 = m) (h : okPat (flL l) = true) (hr : rdPat (flL l) = patF k m) (hc : coldT [] (.tup [.agg l, .bool true]) = (true, .tup [.agg l, .bool true], [])) :
  okOut (.ret (.tup [patV (patS n mask), .bool true]) []) (.tup [.agg l, .bool true]) [] := by
 rw [patS_eq, hk, hm, ← hr]
 exact okOut.cold hc (leV_tup (leRV_cons (arg_pat h) (leRV_cons (leV.refl _) leRV_nil))) rfl ⟨rfl, rfl⟩
theorem m15 {m : Int} (h0 : 0 ≤ m) (h1 : m < 16) (n0 : (m == 0) = false) (n1 : (m == 1) = false) (n2 : (m == 2) = false) (n3 : (m == 3) = false) (n4 : (m == 4) = false) (n5 : (m == 5) = false) (n6 : (m == 6) = false) (n7 : (m == 7) = false) (n8 : (m == 8) = false) (n9 : (m == 9) = false) (n10 : (m == 10) = false) (n11 : (m == 11) = false) (n12 : (m == 12) = false) (n13 : (m == 13) = false) (n14 : (m == 14) = false) : m = 15 := by
 simp only [beq_eq_false_iff_ne] at *
 omega
theorem pof0_c (n mask : Int) (hk : n % 6 = 0) : HCall Tryd.E 7 [.int .i64 n, .int .i64 mask] (.ret (.tup [patV (patS n mask), .bool true]) []) := by
 refine HCall.of_walkC (R := R2) (T := pickK D2 0) (fun _ _ => .unroll 12) 5 rfl rfl ?_
 rw [pof0_eq]
 dsimp only
 have h3 := Int.emod_nonneg mask (show (16 : Int) ≠ 0 by decide)
 have h4 := Int.emod_lt_of_pos mask (show (0 : Int) < 16 by decide)
 refine cnd_iff.2 ⟨by rw [hk]; rfl, ?_⟩
 exact ite2_iff.2 ⟨fun h => pof_leaf hk (eq_of_beq h) rfl rfl rfl, fun n0 => ite2_iff.2 ⟨fun h => pof_leaf hk (eq_of_beq h) rfl rfl rfl, fun n1 => ite2_iff.2 ⟨fun h => pof_leaf hk (eq_of_beq h) rfl rfl rfl, fun n2 => ite2_iff.2 ⟨fun h => pof_leaf hk (eq_of_beq h) rfl rfl rfl, fun n3 => ite2_iff.2 ⟨fun h => pof_leaf hk (eq_of_beq h) rfl rfl rfl, fun n4 => ite2_iff.2 ⟨fun h => pof_leaf hk (eq_of_beq h) rfl rfl rfl, fun n5 => ite2_iff.2 ⟨fun h => pof_leaf hk (eq_of_beq h) rfl rfl rfl, fun n6 => ite2_iff.2 ⟨fun h => pof_leaf hk (eq_of_beq h) rfl rfl rfl, fun n7 => ite2_iff.2 ⟨fun h => pof_leaf hk (eq_of_beq h) rfl rfl rfl, fun n8 => ite2_iff.2 ⟨fun h => pof_leaf hk (eq_of_beq h) rfl rfl rfl, fun n9 => ite2_iff.2 ⟨fun h => pof_leaf hk (eq_of_beq h) rfl rfl rfl, fun n10 => ite2_iff.2 ⟨fun h => pof_leaf hk (eq_of_beq h) rfl rfl rfl, fun n11 => ite2_iff.2 ⟨fun h => pof_leaf hk (eq_of_beq h) rfl rfl rfl, fun n12 => ite2_iff.2 ⟨fun h => pof_leaf hk (eq_of_beq h) rfl rfl rfl, fun n13 => ite2_iff.2 ⟨fun h => pof_leaf hk (eq_of_beq h) rfl rfl rfl, fun n14 => pof_leaf hk (m15 h3 h4 n0 n1 n2 n3 n4 n5 n6 n7 n8 n9 n10 n11 n12 n13 n14) rfl rfl rfl⟩⟩⟩⟩⟩⟩⟩⟩⟩⟩⟩⟩⟩⟩⟩
theorem pof1_c (n mask : Int) (hk : n % 6 = 1) : HCall Tryd.E 7 [.int .i64 n, .int .i64 mask] (.ret (.tup [patV (patS n mask), .bool true]) []) := by
 refine HCall.of_walkC (R := R2) (T := pickK D2 1) (fun _ _ => .unroll 12) 5 rfl rfl ?_
 rw [pof1_eq]
 dsimp only
 have h3 := Int.emod_nonneg mask (show (16 : Int) ≠ 0 by decide)
 have h4 := Int.emod_lt_of_pos mask (show (0 : Int) < 16 by decide)
 refine cnd_iff.2 ⟨by rw [hk]; rfl, ?_⟩
 exact ite2_iff.2 ⟨fun h => pof_leaf hk (eq_of_beq h) rfl rfl rfl, fun n0 => ite2_iff.2 ⟨fun h => pof_leaf hk (eq_of_beq h) rfl rfl rfl, fun n1 => ite2_iff.2 ⟨fun h => pof_leaf hk (eq_of_beq h) rfl rfl rfl, fun n2 => ite2_iff.2 ⟨fun h => pof_leaf hk (eq_of_beq h) rfl rfl rfl, fun n3 => ite2_iff.2 ⟨fun h => pof_leaf hk (eq_of_beq h) rfl rfl rfl, fun n4 => ite2_iff.2 ⟨fun h => pof_leaf hk (eq_of_beq h) rfl rfl rfl, fun n5 => ite2_iff.2 ⟨fun h => pof_leaf hk (eq_of_beq h) rfl rfl rfl, fun n6 => ite2_iff.2 ⟨fun h => pof_leaf hk (eq_of_beq h) rfl rfl rfl, fun n7 => ite2_iff.2 ⟨fun h => pof_leaf hk (eq_of_beq h) rfl rfl rfl, fun n8 => ite2_iff.2 ⟨fun h => pof_leaf hk (eq_of_beq h) rfl rfl rfl, fun n9 => ite2_iff.2 ⟨fun h => pof_leaf hk (eq_of_beq h) rfl rfl rfl, fun n10 => ite2_iff.2 ⟨fun h => pof_leaf hk (eq_of_beq h) rfl rfl rfl, fun n11 => ite2_iff.2 ⟨fun h => pof_leaf hk (eq_of_beq h) rfl rfl rfl, fun n12 => ite2_iff.2 ⟨fun h => pof_leaf hk (eq_of_beq h) rfl rfl rfl, fun n13 => ite2_iff.2 ⟨fun h => pof_leaf hk (eq_of_beq h) rfl rfl rfl, fun n14 => pof_leaf hk (m15 h3 h4 n0 n1 n2 n3 n4 n5 n6 n7 n8 n9 n10 n11 n12 n13 n14) rfl rfl rfl⟩⟩⟩⟩⟩⟩⟩⟩⟩⟩⟩⟩⟩⟩⟩
theorem pof2_c (n mask : Int) (hk : n % 6 = 2) : HCall Tryd.E 7 [.int .i64 n, .int .i64 mask] (.ret (.tup [patV (patS n mask), .bool true]) []) := by
 refine HCall.of_walkC (R := R2) (T := pickK D2 2) (fun _ _ => .unroll 12) 5 rfl rfl ?_
 rw [pof2_eq]
 dsimp only
 have h3 := Int.emod_nonneg mask (show (16 : Int) ≠ 0 by decide)
 have h4 := Int.emod_lt_of_pos mask (show (0 : Int) < 16 by decide)
 refine cnd_iff.2 ⟨by rw [hk]; rfl, ?_⟩
 exact ite2_iff.2 ⟨fun h => pof_leaf hk (eq_of_beq h) rfl rfl rfl, fun n0 => ite2_iff.2 ⟨fun h => pof_leaf hk (eq_of_beq h) rfl rfl rfl, fun n1 => ite2_iff.2 ⟨fun h => pof_leaf hk (eq_of_beq h) rfl rfl rfl, fun n2 => ite2_iff.2 ⟨fun h => pof_leaf hk (eq_of_beq h) rfl rfl rfl, fun n3 => ite2_iff.2 ⟨fun h => pof_leaf hk (eq_of_beq h) rfl rfl rfl, fun n4 => ite2_iff.2 ⟨fun h => pof_leaf hk (eq_of_beq h) rfl rfl rfl, fun n5 => ite2_iff.2 ⟨fun h => pof_leaf hk (eq_of_beq h) rfl rfl rfl, fun n6 => ite2_iff.2 ⟨fun h => pof_leaf hk (eq_of_beq h) rfl rfl rfl, fun n7 => ite2_iff.2 ⟨fun h => pof_leaf hk (eq_of_beq h) rfl rfl rfl, fun n8 => ite2_iff.2 ⟨fun h => pof_leaf hk (eq_of_beq h) rfl rfl rfl, fun n9 => ite2_iff.2 ⟨fun h => pof_leaf hk (eq_of_beq h) rfl rfl rfl, fun n10 => ite2_iff.2 ⟨fun h => pof_leaf hk (eq_of_beq h) rfl rfl rfl, fun n11 => ite2_iff.2 ⟨fun h => pof_leaf hk (eq_of_beq h) rfl rfl rfl, fun n12 => ite2_iff.2 ⟨fun h => pof_leaf hk (eq_of_beq h) rfl rfl rfl, fun n13 => ite2_iff.2 ⟨fun h => pof_leaf hk (eq_of_beq h) rfl rfl rfl, fun n14 => pof_leaf hk (m15 h3 h4 n0 n1 n2 n3 n4 n5 n6 n7 n8 n9 n10 n11 n12 n13 n14) rfl rfl rfl⟩⟩⟩⟩⟩⟩⟩⟩⟩⟩⟩⟩⟩⟩⟩
theorem pof3_c (n mask : Int) (hk : n % 6 = 3) : HCall Tryd.E 7 [.int .i64 n, .int .i64 mask] (.ret (.tup [patV (patS n mask), .bool true]) []) := by
 refine HCall.of_walkC (R := R2) (T := pickK D2 3) (fun _ _ => .unroll 12) 5 rfl rfl ?_
 rw [pof3_eq]
 dsimp only
 have h3 := Int.emod_nonneg mask (show (16 : Int) ≠ 0 by decide)
 have h4 := Int.emod_lt_of_pos mask (show (0 : Int) < 16 by decide)
 refine cnd_iff.2 ⟨by rw [hk]; rfl, ?_⟩
 exact ite2_iff.2 ⟨fun h => pof_leaf hk (eq_of_beq h) rfl rfl rfl, fun n0 => ite2_iff.2 ⟨fun h => pof_leaf hk (eq_of_beq h) rfl rfl rfl, fun n1 => ite2_iff.2 ⟨fun h => pof_leaf hk (eq_of_beq h) rfl rfl rfl, fun n2 => ite2_iff.2 ⟨fun h => pof_leaf hk (eq_of_beq h) rfl rfl rfl, fun n3 => ite2_iff.2 ⟨fun h => pof_leaf hk (eq_of_beq h) rfl rfl rfl, fun n4 => ite2_iff.2 ⟨fun h => pof_leaf hk (eq_of_beq h) rfl rfl rfl, fun n5 => ite2_iff.2 ⟨fun h => pof_leaf hk (eq_of_beq h) rfl rfl rfl, fun n6 => ite2_iff.2 ⟨fun h => pof_leaf hk (eq_of_beq h) rfl rfl rfl, fun n7 => ite2_iff.2 ⟨fun h => pof_leaf hk (eq_of_beq h) rfl rfl rfl, fun n8 => ite2_iff.2 ⟨fun h => pof_leaf hk (eq_of_beq h) rfl rfl rfl, fun n9 => ite2_iff.2 ⟨fun h => pof_leaf hk (eq_of_beq h) rfl rfl rfl, fun n10 => ite2_iff.2 ⟨fun h => pof_leaf hk (eq_of_beq h) rfl rfl rfl, fun n11 => ite2_iff.2 ⟨fun h => pof_leaf hk (eq_of_beq h) rfl rfl rfl, fun n12 => ite2_iff.2 ⟨fun h => pof_leaf hk (eq_of_beq h) rfl rfl rfl, fun n13 => ite2_iff.2 ⟨fun h => pof_leaf hk (eq_of_beq h) rfl rfl rfl, fun n14 => pof_leaf hk (m15 h3 h4 n0 n1 n2 n3 n4 n5 n6 n7 n8 n9 n10 n11 n12 n13 n14) rfl rfl rfl⟩⟩⟩⟩⟩⟩⟩⟩⟩⟩⟩⟩⟩⟩⟩
theorem pof4_c (n mask : Int) (hk : n % 6 = 4) : HCall Tryd.E 7 [.int .i64 n, .int .i64 mask] (.ret (.tup [patV (patS n mask), .bool true]) []) := by
 refine HCall.of_walkC (R := R2) (T := pickK D2 4) (fun _ _ => .unroll 12) 5 rfl rfl ?_
 rw [pof4_eq]
 dsimp only
 have h3 := Int.emod_nonneg mask (show (16 : Int) ≠ 0 by decide)
 have h4 := Int.emod_lt_of_pos mask (show (0 : Int) < 16 by decide)
 refine cnd_iff.2 ⟨by rw [hk]; rfl, ?_⟩
 exact ite2_iff.2 ⟨fun h => pof_leaf hk (eq_of_beq h) rfl rfl rfl, fun n0 => ite2_iff.2 ⟨fun h => pof_leaf hk (eq_of_beq h) rfl rfl rfl, fun n1 => ite2_iff.2 ⟨fun h => pof_leaf hk (eq_of_beq h) rfl rfl rfl, fun n2 => ite2_iff.2 ⟨fun h => pof_leaf hk (eq_of_beq h) rfl rfl rfl, fun n3 => ite2_iff.2 ⟨fun h => pof_leaf hk (eq_of_beq h) rfl rfl rfl, fun n4 => ite2_iff.2 ⟨fun h => pof_leaf hk (eq_of_beq h) rfl rfl rfl, fun n5 => ite2_iff.2 ⟨fun h => pof_leaf hk (eq_of_beq h) rfl rfl rfl, fun n6 => ite2_iff.2 ⟨fun h => pof_leaf hk (eq_of_beq h) rfl rfl rfl, fun n7 => ite2_iff.2 ⟨fun h => pof_leaf hk (eq_of_beq h) rfl rfl rfl, fun n8 => ite2_iff.2 ⟨fun h => pof_leaf hk (eq_of_beq h) rfl rfl rfl, fun n9 => ite2_iff.2 ⟨fun h => pof_leaf hk (eq_of_beq h) rfl rfl rfl, fun n10 => ite2_iff.2 ⟨fun h => pof_leaf hk (eq_of_beq h) rfl rfl rfl, fun n11 => ite2_iff.2 ⟨fun h => pof_leaf hk (eq_of_beq h) rfl rfl rfl, fun n12 => ite2_iff.2 ⟨fun h => pof_leaf hk (eq_of_beq h) rfl rfl rfl, fun n13 => ite2_iff.2 ⟨fun h => pof_leaf hk (eq_of_beq h) rfl rfl rfl, fun n14 => pof_leaf hk (m15 h3 h4 n0 n1 n2 n3 n4 n5 n6 n7 n8 n9 n10 n11 n12 n13 n14) rfl rfl rfl⟩⟩⟩⟩⟩⟩⟩⟩⟩⟩⟩⟩⟩⟩⟩
theorem pof5_c (n mask : Int) (hk : n % 6 = 5) : HCall Tryd.E 7 [.int .i64 n, .int .i64 mask] (.ret (.tup [patV (patS n mask), .bool true]) []) := by
 refine HCall.of_walkC (R := R2) (T := pickK D2 5) (fun _ _ => .unroll 12) 5 rfl rfl ?_
 rw [pof5_eq]
 dsimp only
 have h3 := Int.emod_nonneg mask (show (16 : Int) ≠ 0 by decide)
 have h4 := Int.emod_lt_of_pos mask (show (0 : Int) < 16 by decide)
 refine cnd_iff.2 ⟨by rw [hk]; rfl, ?_⟩
 exact ite2_iff.2 ⟨fun h => pof_leaf hk (eq_of_beq h) rfl rfl rfl, fun n0 => ite2_iff.2 ⟨fun h => pof_leaf hk (eq_of_beq h) rfl rfl rfl, fun n1 => ite2_iff.2 ⟨fun h => pof_leaf hk (eq_of_beq h) rfl rfl rfl, fun n2 => ite2_iff.2 ⟨fun h => pof_leaf hk (eq_of_beq h) rfl rfl rfl, fun n3 => ite2_iff.2 ⟨fun h => pof_leaf hk (eq_of_beq h) rfl rfl rfl, fun n4 => ite2_iff.2 ⟨fun h => pof_leaf hk (eq_of_beq h) rfl rfl rfl, fun n5 => ite2_iff.2 ⟨fun h => pof_leaf hk (eq_of_beq h) rfl rfl rfl, fun n6 => ite2_iff.2 ⟨fun h => pof_leaf hk (eq_of_beq h) rfl rfl rfl, fun n7 => ite2_iff.2 ⟨fun h => pof_leaf hk (eq_of_beq h) rfl rfl rfl, fun n8 => ite2_iff.2 ⟨fun h => pof_leaf hk (eq_of_beq h) rfl rfl rfl, fun n9 => ite2_iff.2 ⟨fun h => pof_leaf hk (eq_of_beq h) rfl rfl rfl, fun n10 => ite2_iff.2 ⟨fun h => pof_leaf hk (eq_of_beq h) rfl rfl rfl, fun n11 => ite2_iff.2 ⟨fun h => pof_leaf hk (eq_of_beq h) rfl rfl rfl, fun n12 => ite2_iff.2 ⟨fun h => pof_leaf hk (eq_of_beq h) rfl rfl rfl, fun n13 => ite2_iff.2 ⟨fun h => pof_leaf hk (eq_of_beq h) rfl rfl rfl, fun n14 => pof_leaf hk (m15 h3 h4 n0 n1 n2 n3 n4 n5 n6 n7 n8 n9 n10 n11 n12 n13 n14) rfl rfl rfl⟩⟩⟩⟩⟩⟩⟩⟩⟩⟩⟩⟩⟩⟩⟩
theorem patternOf_c (n mask : Int) : HCall Tryd.E 7 [.int .i64 n, .int .i64 mask] (.ret (.tup [patV (patS n mask), .bool true]) []) := by
 have h1 := Int.emod_nonneg n (show (6 : Int) ≠ 0 by decide)
 have h2 := Int.emod_lt_of_pos n (show (0 : Int) < 6 by decide)
 have : n % 6 = 0 ∨ n % 6 = 1 ∨ n % 6 = 2 ∨ n % 6 = 3 ∨ n % 6 = 4 ∨ n % 6 = 5 := by omega
 rcases this with h | h | h | h | h | h
 ·exact pof0_c n mask h
 ·exact pof1_c n mask h
 ·exact pof2_c n mask h
 ·exact pof3_c n mask h
 ·exact pof4_c n mask h
 ·exact pof5_c n mask h
theorem holds_c (l : List Int) (n : Int) (hl : l.length ≤ 1000000000) : HCall Tryd.E 13 [vI l, .int .i64 n] (.ret (.bool (hasI l n)) []) := by
 refine HCall.of_walk (R := R1) (T := Ctr.nil Tryd.E) (fun _ _ => holdL l n) 3 rfl rfl ?_
 rw [holds_eq]
 dsimp only
 refine ⟨⟨0, okN_iff.2 ⟨by omega, fun i h => by omega⟩, ?_⟩, fun j hj => ?_⟩
 ·(repeat' first | exact rfl | trivial | apply And.intro)
 obtain ⟨h1, h2⟩ := okN_iff.1 hj
 refine ite2_iff.2 ⟨fun hlt => ?_, fun hlt => ?_⟩
 ·have hlt := (ltI_iff _ _).1 hlt
  have hw : wr .i64 (((j : Nat) : Int) + 1) = ((j + 1 : Nat) : Int) := by rw [wr_of (by omega) (by omega)]; rfl
  rw [inB_of (by omega) (by omega), Int.toNat_natCast, hw]
  refine cnd_iff.2 ⟨rfl, ite2_iff.2 ⟨fun h => ?_, fun h => ⟨j + 1, ⟨Inv.up_lt (by omega), okN_iff.2 ⟨by omega, fun i hi => ?_⟩⟩, ?_⟩⟩⟩
  ·have : hasI l n = true := by
    rw [hasI_eq, List.contains_iff_mem, ← eq_of_beq h, List.getD_eq_getElem?_getD, List.getElem?_eq_getElem (by omega)]
    exact List.getElem_mem _
   rw [this]; exact ⟨rfl, rfl⟩
  ·rcases Nat.lt_or_ge i j with g | g
   ·exact h2 i g
   ·obtain rfl : i = j := by omega
    exact ne_of_beq_false h
  ·(repeat' first | exact rfl | trivial | apply And.intro)
 ·have hge := ltI_gt hlt
  have : hasI l n = false := by
   rw [hasI_eq, ← Bool.not_eq_true, List.contains_iff_mem]
   intro hm
   obtain ⟨i, hi, e⟩ := List.mem_iff_getElem.1 hm
   refine h2 i (by omega) ?_
   rw [List.getD_eq_getElem?_getD, List.getElem?_eq_getElem hi]; exact e
  rw [this]; exact ⟨rfl, rfl⟩
noncomputable def H3 : Ctr Tryd.E := ((((H1.add 13 (fun
  | [x, .int .i64 n] => some (okIS x && leB (rdIS x).length 1000000000, .ret (.bool (hasI (rdIS x) n)) [])
  | _ => none) (by
   intro args pre out h hp
   split at h
   ·simp only [Option.some.injEq, Prod.mk.injEq] at h
    obtain ⟨rfl, rfl⟩ := h
    rename_i x n
    rw [Bool.and_eq_true, okIS_eq, rdIS_eq] at hp
    rw [rdIS_eq]
    exact HCall.args (holds_c (rdIs x) n (leB_iff.1 hp.2)) (by simp [pureL, pureA, okIs_pure hp.1]) (leRV_cons (okIs_le hp.1) (leRV_cons (leV.refl _) leRV_nil))
   ·simp at h)).add 7 (fun
  | [.int .i64 n, .int .i64 mask] => some (true, .ret (.tup [patV (patS n mask), .bool true]) [])
  | _ => none) (by
   intro args pre out h hp
   split at h
   ·simp only [Option.some.injEq, Prod.mk.injEq] at h
    obtain ⟨rfl, rfl⟩ := h
    exact patternOf_c _ _
   ·simp at h)).add 8 (fun
  | [.int .i64 n, .int .i64 m] => some (decide (0 < m) && decide (m ≤ 1000000), .ret (.int .i64 (n % m)) [])
  | _ => none) (by
   intro args pre out h hp
   split at h
   ·simp only [Option.some.injEq, Prod.mk.injEq] at h
    obtain ⟨rfl, rfl⟩ := h
    rw [Bool.and_eq_true, decide_eq_true_eq, decide_eq_true_eq] at hp
    exact upicked_c _ _ hp.1 (by omega)
   ·simp at h)).add 11 (fun
  | [.agg c, x, .int .i64 i] => some (isH c && (okIS x && goodS (rdIS x)), .ret (.tup [.bool (hidR (patOf c) (rdIS x) i).1, .int .i64 (hidR (patOf c) (rdIS x) i).2]) [])
  | _ => none) (by
   intro args pre out h hp
   split at h
   ·simp only [Option.some.injEq, Prod.mk.injEq] at h
    obtain ⟨rfl, rfl⟩ := h
    rename_i c x i
    rw [Bool.and_eq_true, Bool.and_eq_true, goodS_iff, okIS_eq, rdIS_eq] at hp
    obtain ⟨p, hm, rfl⟩ := isH_iff.1 hp.1
    rw [patOf_eq, rdIS_eq]
    exact HCall.args (hidden_c p hm (rdIs x) hp.2.2 i) (by simp [pureL, pureA, okIs_pure hp.2.1]; rfl) (leRV_cons (leV.refl _) (leRV_cons (okIs_le hp.2.1) (leRV_cons (leV.refl _) leRV_nil)))
   ·simp at h))
def turnN (p : Pat) (turn : Int) : Nat := (turn % (p.turns.length : Int)).toNat
noncomputable def eeB (a : List (Int × Int)) (j : Nat) : Bool := (a.take j).contains (3, 4)
noncomputable def laterL (p : Pat) (i : Nat) (f _r : Nat) : LPlan := bif f == 5 then .rel [2, 3, 11, 13, 14, 15, 52, 53] [53] Nat Inv.upTo Inv.up (fun j => [(54, .int .i64 ((j : Nat) : Int)), (18, .bool (eeB (pairsP p i) j))]) (fun _ => []) else .unroll 6
theorem hlater_eq (n mask known more turn : Int) (K : AV → Heap → Prop) : walk Tryd.E R1 H3.C (laterL (patS n mask) (turnN (patS n mask) turn)) 4 5 [.int .i64 n, .int .i64 mask, .int .i64 known, .int .i64 more, .int .i64 turn] K = (
 let x0 : List (List Int) := (Pat.Pat.turns (patS n mask))
 let x1 : Nat := (List.length x0)
 let x2 : Int := ((x1 : Nat) : Int)
 let x3 : List Int := (Pat.Pat.psks (patS n mask))
 let x4 : List Int := (Pat.Pat.pre0 (patS n mask))
 let x5 : List Int := (Pat.Pat.pre1 (patS n mask))
 let x6 : List AV := [AV.str (Pat.Pat.base (patS n mask)), AV.bool (Pat.Pat.late (patS n mask)), AV.vecr false 1 (List.length x3) (Pat.intF x3), AV.vecr false 1 (List.length x4) (Pat.intF x4), AV.vecr false 1 (List.length x5) (Pat.intF x5), AV.vecr false 1 x1 (Pat.trF x0)]
 let x7 : List AV := [AV.int .i64 1, AV.int .i64 2]
 let x8 : List Int := (Tm.rdIS (AV.vec false 1 x7))
 let x9 : List (Int × Int) := (Tm.pairsP (Tm.patOf x6) (Int.toNat (turn % x2)))
 let x10 : Nat := (List.length x9)
 let x11 : Int := ((x10 : Nat) : Int)
 let x12 : Bool := (Prod.fst (Tm.hidR (Tm.patOf x6) x8 (turn % x2)))
 let x13 : Int := (Prod.snd (Tm.hidR (Tm.patOf x6) x8 (turn % x2)))
 let x14 : List (Int × Int) := (Tm.pairsP (patS n mask) (turnN (patS n mask) turn))
 let x15 : List Int := (Tm.secT (Int.toNat (known % 64)))
 let x16 : List Int := (Tm.rdIS (AV.vecr false 1 (List.length x15) (Pat.intF x15)))
 let x17 : Int := (bits BinOp.or .i64 (known % 64) (more % 64))
 let x18 : List Int := (Tm.secT (Int.toNat x17))
 let x19 : List Int := (Tm.rdIS (AV.vecr false 1 (List.length x18) (Pat.intF x18)))
 cnd ((Decidable.decide (0 < x2)) && (Decidable.decide (x2 ≤ 1000000)))
 (cnd ((Tm.isH x6) && ((Tm.okIS (AV.vec false 1 x7)) && (Tm.goodS x8)))
 (cnd ((Tm.isH x6) && ((nnB (turn % x2)) && (ltI (turn % x2) (((List.length (Pat.Pat.turns (Tm.patOf x6))) : Nat) : Int))))
 ((∃ w0 : Nat, (Inv.upTo [AV.int .i64 x11] w0) ∧ ((AV.int .i64 known = AV.int .i64 known) ∧ ((AV.int .i64 more = AV.int .i64 more) ∧ ((AV.int .i64 (turn % x2) = AV.int .i64 (turn % x2)) ∧ ((AV.bool x12 = AV.bool x12) ∧ ((AV.int .i64 x13 = AV.int .i64 x13) ∧ ((AV.bool false = AV.bool (eeB x14 w0)) ∧ ((AV.vecr false 2 x10 (Tm.prF x9) = AV.vecr false 2 x10 (Tm.prF x9)) ∧ ((AV.int .i64 x11 = AV.int .i64 x11) ∧ ((AV.int .i64 0 = AV.int .i64 ((w0 : Nat) : Int)) ∧ ((AV.str (Pat.Pat.base (patS n mask)) = AV.str (Pat.Pat.base (patS n mask))) ∧ ((AV.bool (Pat.Pat.late (patS n mask)) = AV.bool (Pat.Pat.late (patS n mask))) ∧ ((AV.vecr false 1 (List.length x3) (Pat.intF x3) = AV.vecr false 1 (List.length x3) (Pat.intF x3)) ∧ ((AV.vecr false 1 (List.length x4) (Pat.intF x4) = AV.vecr false 1 (List.length x4) (Pat.intF x4)) ∧ ((AV.vecr false 1 (List.length x5) (Pat.intF x5) = AV.vecr false 1 (List.length x5) (Pat.intF x5)) ∧ ((AV.vecr false 1 x1 (Pat.trF x0) = AV.vecr false 1 x1 (Pat.trF x0)) ∧ ((x7 = x7) ∧ True))))))))))))))))) ∧ (∀ w1 : Nat, (Inv.upTo [AV.int .i64 x11] w1 → ite2 (ltI ((w1 : Nat) : Int) x11)
 (cnd ((inB ((w1 : Nat) : Int) x10) && true)
 (ite2 (eeB x14 w1)
 ((∃ w2 : Nat, (((Inv.up w2) < (Inv.up w1)) ∧ (Inv.upTo [AV.int .i64 x11] w2)) ∧ ((AV.int .i64 known = AV.int .i64 known) ∧ ((AV.int .i64 more = AV.int .i64 more) ∧ ((AV.int .i64 (turn % x2) = AV.int .i64 (turn % x2)) ∧ ((AV.bool x12 = AV.bool x12) ∧ ((AV.int .i64 x13 = AV.int .i64 x13) ∧ ((AV.bool true = AV.bool (eeB x14 w2)) ∧ ((AV.vecr false 2 x10 (Tm.prF x9) = AV.vecr false 2 x10 (Tm.prF x9)) ∧ ((AV.int .i64 x11 = AV.int .i64 x11) ∧ ((AV.int .i64 (wr .i64 (((w1 : Nat) : Int) + 1)) = AV.int .i64 ((w2 : Nat) : Int)) ∧ ((AV.str (Pat.Pat.base (patS n mask)) = AV.str (Pat.Pat.base (patS n mask))) ∧ ((AV.bool (Pat.Pat.late (patS n mask)) = AV.bool (Pat.Pat.late (patS n mask))) ∧ ((AV.vecr false 1 (List.length x3) (Pat.intF x3) = AV.vecr false 1 (List.length x3) (Pat.intF x3)) ∧ ((AV.vecr false 1 (List.length x4) (Pat.intF x4) = AV.vecr false 1 (List.length x4) (Pat.intF x4)) ∧ ((AV.vecr false 1 (List.length x5) (Pat.intF x5) = AV.vecr false 1 (List.length x5) (Pat.intF x5)) ∧ ((AV.vecr false 1 x1 (Pat.trF x0) = AV.vecr false 1 x1 (Pat.trF x0)) ∧ ((x7 = x7) ∧ True))))))))))))))))))
 ((∃ w3 : Nat, (((Inv.up w3) < (Inv.up w1)) ∧ (Inv.upTo [AV.int .i64 x11] w3)) ∧ ((AV.int .i64 known = AV.int .i64 known) ∧ ((AV.int .i64 more = AV.int .i64 more) ∧ ((AV.int .i64 (turn % x2) = AV.int .i64 (turn % x2)) ∧ ((AV.bool x12 = AV.bool x12) ∧ ((AV.int .i64 x13 = AV.int .i64 x13) ∧ ((AV.bool (cond false true (((Prod.fst (List.getD x9 (Int.toNat ((w1 : Nat) : Int)) (0, 0))) == 3) && (((Prod.snd (List.getD x9 (Int.toNat ((w1 : Nat) : Int)) (0, 0))) == 4) && true))) = AV.bool (eeB x14 w3)) ∧ ((AV.vecr false 2 x10 (Tm.prF x9) = AV.vecr false 2 x10 (Tm.prF x9)) ∧ ((AV.int .i64 x11 = AV.int .i64 x11) ∧ ((AV.int .i64 (wr .i64 (((w1 : Nat) : Int) + 1)) = AV.int .i64 ((w3 : Nat) : Int)) ∧ ((AV.str (Pat.Pat.base (patS n mask)) = AV.str (Pat.Pat.base (patS n mask))) ∧ ((AV.bool (Pat.Pat.late (patS n mask)) = AV.bool (Pat.Pat.late (patS n mask))) ∧ ((AV.vecr false 1 (List.length x3) (Pat.intF x3) = AV.vecr false 1 (List.length x3) (Pat.intF x3)) ∧ ((AV.vecr false 1 (List.length x4) (Pat.intF x4) = AV.vecr false 1 (List.length x4) (Pat.intF x4)) ∧ ((AV.vecr false 1 (List.length x5) (Pat.intF x5) = AV.vecr false 1 (List.length x5) (Pat.intF x5)) ∧ ((AV.vecr false 1 x1 (Pat.trF x0) = AV.vecr false 1 x1 (Pat.trF x0)) ∧ ((x7 = x7) ∧ True))))))))))))))))))))
 (cnd ((nnB (known % 64)) && (ltI (known % 64) 64))
 (cnd ((Tm.isH x6) && ((Tm.okIS (AV.vecr false 1 (List.length x15) (Pat.intF x15))) && (Tm.goodS x16)))
 (cnd ((nnB x17) && (ltI x17 64))
 (cnd ((Tm.isH x6) && ((Tm.okIS (AV.vecr false 1 (List.length x18) (Pat.intF x18))) && (Tm.goodS x19)))
 (ite2 (x13 == 0)
 (ite2 (cond true ((Prod.snd (Tm.hidR (Tm.patOf x6) x16 (turn % x2))) == 0) false)
 (ite2 (cond true ((Prod.snd (Tm.hidR (Tm.patOf x6) x19 (turn % x2))) == 0) false)
 (ite2 (Bool.not (eeB x14 w1))
 (ite2 (Bool.not (Prod.fst (Tm.hidR (Tm.patOf x6) x19 (turn % x2))))
 (K (AV.bool true) [])
 (K (AV.bool (cond true (cond false true (Prod.fst (Tm.hidR (Tm.patOf x6) x16 (turn % x2)))) false)) []))
 (ite2 (cond true (cond false true x12) false)
 (ite2 (Bool.not (Prod.fst (Tm.hidR (Tm.patOf x6) x19 (turn % x2))))
 (K (AV.bool true) [])
 (K (AV.bool (cond true (cond false true (Prod.fst (Tm.hidR (Tm.patOf x6) x16 (turn % x2)))) false)) []))
 (K (AV.bool false) [])))
 (K (AV.bool false) []))
 (K (AV.bool false) []))
 (K (AV.bool false) [])))))))))))) := by kernel_rfl
set_option maxHeartbeats 4000000
theorem take_next {α : Type} (l : List α) (d : α) {j : Nat} (hj : j < l.length) : l.take (j + 1) = l.take j ++ [l.getD j d] := by
 rw [List.take_add_one, List.getD_eq_getElem?_getD, List.getElem?_eq_getElem hj]; rfl
theorem rdIS_row (S : List Int) : rdIS (.vecr false 1 S.length (intF S)) = S := rdIS_vI S
theorem okIS_row (S : List Int) : okIS (.vecr false 1 S.length (intF S)) = true := okIS_vI S
theorem hidR_in {p : Pat} {S : List Int} {i : Int} (h0 : 0 ≤ i) (h1 : i < (p.turns.length : Int)) (hl : S.length ≤ 6) : hidR p S i = (wantB S (pairsP p i.toNat) (singleP p i.toNat), 0) := by
 rw [hidR_eq]; unfold hidF; rw [if_neg (by omega)]
theorem ahead_len (i : Nat) : ∀ l : List Tk, (aheadOf i l).length ≤ l.length
 | [] => Nat.le_refl _
 | t :: l => by
  unfold aheadOf
  split
  ·exact Nat.zero_le _
  ·have := ahead_len i l
   rw [List.length_cons, List.length_cons]; omega
theorem toks_len : tabH.all (fun p => decide ((toksP p).length ≤ 1000)) = true := by kernel_rfl
theorem pairs_len {p : Pat} (hp : p ∈ tabH) (i : Nat) : (pairsP p i).length ≤ 1000 ∧ (singleP p i).length ≤ 1000 := by
 have := of_decide_eq_true (List.all_eq_true.1 toks_len p hp)
 have h2 := ahead_len i (toksP p)
 unfold pairsP singleP
 exact ⟨Nat.le_trans (List.length_filterMap_le ..) (by omega), Nat.le_trans (List.length_filterMap_le ..) (by omega)⟩
theorem res_yes {b : Bool} (h : b = true) : (Out.ret (.bool true) []).has (.bool b) [] := by subst h; exact ⟨rfl, rfl⟩
theorem eeB_succ (a : List (Int × Int)) {j : Nat} (hj : j < a.length) : eeB a (j + 1) = (eeB a j || ((a.getD j (0, 0)).1 == 3 && ((a.getD j (0, 0)).2 == 4 && true))) := by
 unfold eeB
 rw [take_next a (0, 0) hj]
 generalize a.take j = l
 generalize a.getD j (0, 0) = x
 obtain ⟨u, v⟩ := x
 rw [Bool.and_true]
 apply Bool.eq_iff_iff.2
 rw [List.contains_iff_mem, Bool.or_eq_true, List.contains_iff_mem, List.mem_append, List.mem_singleton, Bool.and_eq_true, beq_iff_eq, beq_iff_eq, Prod.mk.injEq]
 exact ⟨fun h => h.imp id fun h => ⟨h.1.symm, h.2.symm⟩, fun h => h.imp id fun h => ⟨h.1.symm, h.2.symm⟩⟩
theorem or_all : ((List.range 64).all fun (a : Nat) => (List.range 64).all fun (b : Nat) => (decide (0 ≤ bits .or .i64 (a : Int) (b : Int)) && decide (bits .or .i64 (a : Int) (b : Int) < 64)) && (secT a).all fun n => (secT (Int.toNat (bits .or .i64 (a : Int) (b : Int)))).contains n) = true := by kernel_rfl
theorem or_more {a b : Int} (h0 : 0 ≤ a) (h1 : a < 64) (h2 : 0 ≤ b) (h3 : b < 64) : (0 ≤ bits .or .i64 a b ∧ bits .or .i64 a b < 64) ∧ ∀ n ∈ secT a.toNat, n ∈ secT (Int.toNat (bits .or .i64 a b)) := by
 have := List.all_eq_true.1 or_all a.toNat (List.mem_range.2 (by omega))
 have := List.all_eq_true.1 this b.toNat (List.mem_range.2 (by omega))
 rw [Int.toNat_of_nonneg h0, Int.toNat_of_nonneg h2] at this
 simp only [Bool.and_eq_true, decide_eq_true_eq, List.all_eq_true, List.contains_iff_mem] at this
 exact this
theorem want_more {S T : List Int} (h : ∀ n ∈ S, n ∈ T) {a : List (Int × Int)} {b : List Int} (hw : wantB T a b = true) : wantB S a b = true := by
 have hno : ∀ n, (!(T.contains n)) = true → (!(S.contains n)) = true := by
  intro n hn
  rw [Bool.not_eq_true', contains_no] at hn ⊢
  exact fun hm => hn (h n hm)
 unfold wantB at hw ⊢
 rw [Bool.or_eq_true, List.any_eq_true, List.any_eq_true] at hw ⊢
 rcases hw with ⟨x, hx, h2⟩ | ⟨x, hx, h2⟩
 ·rw [Bool.and_eq_true] at h2
  exact .inl ⟨x, hx, by rw [hno _ h2.1, hno _ h2.2]; rfl⟩
 ·exact .inr ⟨x, hx, hno _ h2⟩
theorem want_ee {a : List (Int × Int)} {b : List Int} (h : eeB a a.length = true) : wantB [1, 2] a b = true := by
 unfold eeB at h
 rw [List.take_length, List.contains_iff_mem] at h
 unfold wantB
 rw [Bool.or_eq_true, List.any_eq_true]
 exact .inl ⟨(3, 4), h, rfl⟩
theorem rdIS_12 : rdIS (.vec false 1 [.int .i64 1, .int .i64 2]) = [1, 2] := by rw [rdIS_eq]; rfl
theorem okIS_12 : okIS (.vec false 1 [.int .i64 1, .int .i64 2]) = true := by rw [okIS_eq]; rfl
theorem hiddenLater_c (n : Int) (_n0 : -9223372036854775808 ≤ n ∧ n ≤ 9223372036854775807) (mask : Int) (_n1 : -9223372036854775808 ≤ mask ∧ mask ≤ 9223372036854775807) (known : Int) (_n2 : -9223372036854775808 ≤ known ∧ known ≤ 9223372036854775807) (more : Int) (_n3 : -9223372036854775808 ≤ more ∧ more ≤ 9223372036854775807) (turn : Int) (_n4 : -9223372036854775808 ≤ turn ∧ turn ≤ 9223372036854775807) :
  HCall Tryd.E 5 [.int .i64 n, .int .i64 mask, .int .i64 known, .int .i64 more, .int .i64 turn] (.ret (.bool true) []) := by
 refine HCall.of_walk (R := R1) (T := H3) (laterL (patS n mask) (turnN (patS n mask) turn)) 4 rfl rfl ?_
 rw [hlater_eq]
 dsimp only
 have hp := patS_tab n mask
 generalize patS n mask = p at *
 obtain ⟨t1, t2, t3, t4, t5, t6⟩ := told_len hp
 rw [isH_pat hp, patOf_pat]
 have k0 := Int.emod_nonneg known (show (64 : Int) ≠ 0 by decide)
 have k1 := Int.emod_lt_of_pos known (show (0 : Int) < 64 by decide)
 have m0 := Int.emod_nonneg more (show (64 : Int) ≠ 0 by decide)
 have m1 := Int.emod_lt_of_pos more (show (0 : Int) < 64 by decide)
 obtain ⟨⟨o0, o1⟩, hsub⟩ := or_more k0 k1 m0 m1
 obtain ⟨s1, s2⟩ := sec_small (known % 64).toNat
 obtain ⟨u1, u2⟩ := sec_small (Int.toNat (bits .or .i64 (known % 64) (more % 64)))
 have i0 := Int.emod_nonneg turn (show ((p.turns.length : Nat) : Int) ≠ 0 by omega)
 have i1 := Int.emod_lt_of_pos turn (show (0 : Int) < ((p.turns.length : Nat) : Int) by omega)
 have e18 : turnN p turn = Int.toNat (turn % ((p.turns.length : Nat) : Int)) := rfl
 rw [e18, rdIS_row, okIS_row, rdIS_row, okIS_row, okIS_12, rdIS_12, nnB_iff.2 o0, (ltI_iff _ _).2 o1, nnB_iff.2 k0, (ltI_iff _ _).2 k1]
 generalize secT (Int.toNat (known % 64)) = S at *
 generalize secT (Int.toNat (bits .or .i64 (known % 64) (more % 64))) = T at *
 generalize turn % ((p.turns.length : Nat) : Int) = i at *
 rw [hidR_in i0 i1 s2, hidR_in i0 i1 u2, hidR_in (S := [1, 2]) i0 i1 (by decide)]
 obtain ⟨l1, l2⟩ := pairs_len hp i.toNat
 generalize pairsP p i.toNat = a at *
 generalize singleP p i.toNat = b at *
 rw [goodS_iff.2 s1, goodS_iff.2 u1, show goodS [1, 2] = true from goodS_iff.2 (by simp)]
 refine cnd_iff.2 ⟨by rw [decide_eq_true (by omega), decide_eq_true (by omega)]; rfl, cnd_iff.2 ⟨rfl, cnd_iff.2 ⟨by rw [nnB_iff.2 i0, (ltI_iff _ _).2 i1]; rfl, ?_⟩⟩⟩
 refine ⟨⟨0, by rw [Inv.upTo_int]; omega, ?_⟩, fun j hj => ?_⟩
 ·(repeat' first | exact rfl | trivial | apply And.intro)
 rw [Inv.upTo_int] at hj
 refine ite2_iff.2 ⟨fun hlt => ?_, fun hge => ?_⟩
 ·have hlt := (ltI_iff _ _).1 hlt
  have hlt : j < a.length := by omega
  have hw : wr .i64 (((j : Nat) : Int) + 1) = ((j + 1 : Nat) : Int) := by rw [wr_of (by omega) (by omega)]; rfl
  have hs := eeB_succ a hlt
  rw [inB_of (by omega) (by omega), Int.toNat_natCast, hw]
  refine cnd_iff.2 ⟨rfl, ite2_iff.2 ⟨fun g => ?_, fun g => ?_⟩⟩
  ·refine ⟨j + 1, ⟨Inv.up_lt (by omega), by rw [Inv.upTo_int]; omega⟩, ?_⟩
   rw [hs, g]
   (repeat' first | exact rfl | trivial | apply And.intro)
  ·refine ⟨j + 1, ⟨Inv.up_lt (by omega), by rw [Inv.upTo_int]; omega⟩, ?_⟩
   rw [hs, g]
   (repeat' first | exact rfl | trivial | apply And.intro)
 ·have hge := ltI_gt hge
  obtain rfl : j = a.length := by omega
  have f : ∀ {x y : Prop} {w : Bool}, y → ite2 ((w, (0 : Int)).2 == 0) y x := fun h => h
  have more_less : wantB T a b = true → wantB S a b = true := want_more hsub
  refine cnd_iff.2 ⟨rfl, cnd_iff.2 ⟨rfl, cnd_iff.2 ⟨rfl, cnd_iff.2 ⟨rfl, ?_⟩⟩⟩⟩
  have last : ite2 (Bool.not (wantB T a b)) ((Out.ret (.bool true) []).has (.bool true) []) ((Out.ret (.bool true) []).has (.bool (wantB S a b)) []) := by
   refine ite2_iff.2 ⟨fun _ => ⟨rfl, rfl⟩, fun h => res_yes (more_less ?_)⟩
   cases hb : wantB T a b with
   | true => rfl
   | false => rw [hb] at h; cases h
  show ite2 (Bool.not (eeB a a.length)) _ (ite2 (wantB [1, 2] a b) _ _)
  refine ite2_iff.2 ⟨fun _ => last, fun h => ite2_iff.2 ⟨fun _ => last, fun h2 => ?_⟩⟩
  have he : eeB a a.length = true := by
   cases hb : eeB a a.length with
   | true => rfl
   | false => rw [hb] at h; cases h
  rw [want_ee he] at h2
  cases h2
end Go.Proofs.YtcnnogimaikicaaDoor