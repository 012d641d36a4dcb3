import Derived.Test.YtfjmpdoidkblcaaDoorLawF
set_option linter.unusedSimpArgs false
set_option linter.unusedVariables false
namespace Go.Proofs.YtfjmpdoidkblcaaDoor
open Go Go.V Go.Fld
set_option maxHeartbeats 0
set_option maxRecDepth 100000

theorem groups_eq (x y z : List UInt8) (K : AV → Heap → Prop) : walk Tryd.E RR T6.C (fun _ _ => .unroll 6) 5 4 [.b8 32 x, .b8 32 y, .b8 32 z] K = (
 let x0 : Nat := (Fld.nv (Fld.fes (Fld.fromN x)))
 let x1 : Nat := 57896044618658097711785492504343953926634992332820282019728792003956564819949
 let x2 : Bool := (Fld.ltN x0 x1)
 let x3 : Nat := (Fld.nv (Fld.fes (Fld.fromN y)))
 let x4 : Bool := (Fld.ltN x3 x1)
 let x5 : List UInt64 := (Fld.fes ((x0 + x3) % x1))
 let x6 : Nat := (Fld.nv (Fld.fes (Fld.fromN z)))
 let x7 : Bool := (Fld.ltN x6 x1)
 let x8 : Nat := (Fld.nv (Fld.fes ((x3 + x6) % x1)))
 let x9 : List UInt64 := (Fld.fes ((x0 * x3) % x1))
 let x10 : Nat := (Fld.nv (Fld.fes ((x3 * x6) % x1)))
 cnd (x2 && x4)
 (cnd ((Fld.ltN (Fld.nv x5) x1) && x7)
 (cnd (x4 && x7)
 (cnd (x2 && (Fld.ltN x8 x1))
 (cnd (x4 && x2)
 (ite2 (cond Bool.true ((Fld.fes (((Fld.nv x5) + x6) % x1)) == (Fld.fes ((x0 + x8) % x1))) Bool.false)
 -- THEN
 (ite2 (cond Bool.true (cond Bool.true (x5 == (Fld.fes ((x3 + x0) % x1))) Bool.false) Bool.false)
 -- THEN
 (cnd (x2 && x4)
 (cnd ((Fld.ltN (Fld.nv x9) x1) && x7)
 (cnd (x4 && x7)
 (cnd (x2 && (Fld.ltN x10 x1))
 (cnd (x4 && x2)
 (ite2 (cond Bool.true ((Fld.fes (((Fld.nv x9) * x6) % x1)) == (Fld.fes ((x0 * x10) % x1))) Bool.false)
 -- THEN
 (K (AV.bool (cond Bool.true (cond Bool.true (x9 == (Fld.fes ((x3 * x0) % x1))) Bool.false) Bool.false)) [])
 -- ELSE
 (K (AV.bool Bool.false) [])))))))
 -- ELSE
 (K (AV.bool Bool.false) []))
 -- ELSE
 (K (AV.bool Bool.false) []))))))) := by kernel_rfl

theorem spreads_eq (x y z : List UInt8) (K : AV → Heap → Prop) : walk Tryd.E RR T6.C (fun _ _ => .unroll 6) 5 5 [.b8 32 x, .b8 32 y, .b8 32 z] K = (
 let x0 : List UInt64 := (Fld.fes (Fld.fromN x))
 let x1 : Nat := 57896044618658097711785492504343953926634992332820282019728792003956564819949
 let x2 : Bool := (Fld.ltN (Fld.nv x0) x1)
 let x3 : Nat := (Fld.nv (Fld.fes (Fld.fromN y)))
 let x4 : Bool := (Fld.ltN x3 x1)
 let x5 : Nat := (Fld.nv (Fld.fes (((Fld.nv x0) + x3) % x1)))
 let x6 : Nat := (Fld.nv (Fld.fes (Fld.fromN z)))
 let x7 : Bool := (Fld.ltN x6 x1)
 let x8 : Nat := (Fld.nv (Fld.fes (((Fld.nv x0) * x6) % x1)))
 let x9 : Nat := (Fld.nv (Fld.fes ((x3 * x6) % x1)))
 let x10 : Nat := (Fld.nv (Fld.fes ((((Fld.nv x0) + x1) - x3) % x1)))
 cnd (x2 && x4)
 (cnd ((Fld.ltN x5 x1) && x7)
 (cnd (x2 && x7)
 (cnd (x4 && x7)
 (cnd ((Fld.ltN x8 x1) && (Fld.ltN x9 x1))
 (cnd (x2 && x4)
 (cnd ((Fld.ltN x10 x1) && x4)
 (ite2 (cond Bool.true ((Fld.fes ((x5 * x6) % x1)) == (Fld.fes ((x8 + x9) % x1))) Bool.false)
 -- THEN
 (K (AV.bool (cond Bool.true ((Fld.fes ((x10 + x3) % x1)) == x0) Bool.false)) [])
 -- ELSE
 (K (AV.bool Bool.false) []))))))))) := by kernel_rfl

theorem inverse_eq (x y : List UInt8) (K : AV → Heap → Prop) : walk Tryd.E RR T6.C (fun _ _ => .unroll 6) 5 6 [.b8 32 x, .b8 32 y] K = (
 let x0 : List UInt64 := (Fld.fes (Fld.fromN x))
 let x1 : Nat := 57896044618658097711785492504343953926634992332820282019728792003956564819949
 let x2 : Bool := Fld.ltN (Fld.nv x0) x1
 let x3 : List UInt64 := (Fld.fes (((Fld.nv x0) ^ 57896044618658097711785492504343953926634992332820282019728792003956564819947) % x1))
 let x4 : List UInt64 := (Fld.fes (Fld.fromN y))
 let x5 : Bool := ((Fld.fes (((Fld.nv x0) * (Fld.nv x4)) % x1)) == [0, 0, 0, 0])
 cnd (x2)
 (cnd (x2 && (Fld.ltN (Fld.nv x3) x1))
 (cnd (x2 && (Fld.ltN (Fld.nv x4) x1))
 (ite2 (x0 == [0, 0, 0, 0])
 -- THEN
 (ite2 (cond Bool.true (x3 == [0, 0, 0, 0]) Bool.false)
 -- THEN
 (K (AV.bool (cond Bool.true x5 Bool.false)) [])
 -- ELSE
 (K (AV.bool Bool.false) []))
 -- ELSE
 (ite2 (cond Bool.true ((Fld.fes (((Fld.nv x0) * (Fld.nv x3)) % x1)) == (List.set [0, 0, 0, 0] 0 1)) Bool.false)
 -- THEN
 (K (AV.bool (cond Bool.true (x5 == (x4 == [0, 0, 0, 0])) Bool.false)) [])
 -- ELSE
 (K (AV.bool Bool.false) [])))))) := by kernel_rfl

end Go.Proofs.YtfjmpdoidkblcaaDoor
