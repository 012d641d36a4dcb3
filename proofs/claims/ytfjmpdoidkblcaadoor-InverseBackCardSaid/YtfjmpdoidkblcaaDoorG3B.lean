import Derived.Test.YtfjmpdoidkblcaaDoorF3A
set_option linter.unusedSimpArgs false
set_option linter.unusedVariables false
namespace Go.Proofs.YtfjmpdoidkblcaaDoor
open Go Go.V Go.Fld
set_option maxHeartbeats 0
set_option maxRecDepth 100000

theorem below_eq (a : List UInt64) (K : AV → Heap → Prop) : walk Tryd.E RR T1.C (fun _ _ => .unroll 6) 3 24 [.w64 4 a] K = (

 K (AV.bool (Fld.ltN (Fld.nv a) 57896044618658097711785492504343953926634992332820282019728792003956564819949)) []) := by kernel_rfl

theorem plus_eq (a0 a1 a2 a3 n : UInt64) (K : AV → Heap → Prop) : walk Tryd.E RR T1.C (fun _ l => bif l == 1 then .unroll 3 else .unroll 6) 3 34 [.w64 4 [a0, a1, a2, a3], .u64 n] K = (
 let x0 : List UInt64 := [a0, a1, a2, a3]
 let x1 : UInt64 := (List.getD x0 0 0)
 let x2 : UInt64 := (carry64 x1 n 0)
 let x3 : List UInt64 := (List.set x0 0 ((x1 + n) + 0))
 let x4 : UInt64 := (List.getD x3 1 0)
 let x5 : UInt64 := (carry64 x4 0 x2)
 let x6 : List UInt64 := (List.set x3 1 ((x4 + 0) + x2))
 let x7 : UInt64 := (List.getD x6 2 0)
 let x8 : UInt64 := (carry64 x7 0 x5)
 let x9 : List UInt64 := (List.set x6 2 ((x7 + 0) + x5))
 let x10 : UInt64 := (List.getD x9 3 0)
 let x11 : UInt64 := (38 * (carry64 x10 0 x8))
 let x12 : List UInt64 := (List.set x9 3 ((x10 + 0) + x8))
 let x13 : UInt64 := (List.getD x12 0 0)
 let x14 : UInt64 := (carry64 x13 x11 0)
 let x15 : List UInt64 := (List.set x12 0 ((x13 + x11) + 0))
 let x16 : UInt64 := (List.getD x15 1 0)
 let x17 : UInt64 := (carry64 x16 0 x14)
 let x18 : List UInt64 := (List.set x15 1 ((x16 + 0) + x14))
 let x19 : UInt64 := (List.getD x18 2 0)
 let x20 : UInt64 := (carry64 x19 0 x17)
 let x21 : List UInt64 := (List.set x18 2 ((x19 + 0) + x17))
 let x22 : UInt64 := (List.getD x21 3 0)
 let x23 : UInt64 := (38 * (carry64 x22 0 x20))
 let x24 : List UInt64 := (List.set x21 3 ((x22 + 0) + x20))
 let x25 : UInt64 := (List.getD x24 0 0)
 let x26 : UInt64 := (carry64 x25 x23 0)
 let x27 : List UInt64 := (List.set x24 0 ((x25 + x23) + 0))
 let x28 : UInt64 := (List.getD x27 1 0)
 let x29 : UInt64 := (carry64 x28 0 x26)
 ite2 ((((UInt64.toNat n) : Nat) : Int) != 0)
 -- THEN
 (cnd (bit1 x2)
 (cnd (bit1 x5)
 (cnd (bit1 x8)
 (ite2 ((((UInt64.toNat x11) : Nat) : Int) != 0)
 -- THEN
 (cnd (bit1 x14)
 (cnd (bit1 x17)
 (cnd (bit1 x20)
 (ite2 ((((UInt64.toNat x23) : Nat) : Int) != 0)
 -- THEN
 (cnd (bit1 x26)
 (cnd (bit1 x29)
 (cnd (bit1 (carry64 (List.getD (List.set x27 1 ((x28 + 0) + x26)) 2 0) 0 x29))
 (False))))
 -- ELSE
 (K (AV.w64 4 x24) [])))))
 -- ELSE
 (K (AV.w64 4 x12) [])))))
 -- ELSE
 (K (AV.w64 4 x0) [])) := by kernel_rfl

end Go.Proofs.YtfjmpdoidkblcaaDoor
