import Derived.Test.YtfjmpdoidkblcaaDoorEnv
import Derived.Test.YtfjmpdoidkblcaaDoorNumQ
set_option linter.unusedSimpArgs false
set_option linter.unusedVariables false
namespace Go.Proofs.YtfjmpdoidkblcaaDoor
open Go Go.V Go.Fld
noncomputable abbrev RR := ROps.nil Tryd.E
noncomputable abbrev CC := (Ctr.nil Tryd.E).C
set_option maxHeartbeats 0
set_option maxRecDepth 100000

theorem less_eq (a0 a1 a2 a3 b0 b1 b2 b3 : UInt64) (K : AV → Heap → Prop) : walk Tryd.E RR CC (fun _ _ => .unroll 6) 3 32 [.w64 4 [a0, a1, a2, a3], .w64 4 [b0, b1, b2, b3]] K = (
 let x0 : List UInt64 := [a0, a1, a2, a3]
 let x1 : UInt64 := (List.getD x0 0 0)
 let x2 : List UInt64 := [b0, b1, b2, b3]
 let x3 : UInt64 := (List.getD x2 0 0)
 let x4 : UInt64 := (borrow64 x1 x3 0)
 let x5 : List UInt64 := (List.set x0 0 ((x1 - x3) - 0))
 let x6 : UInt64 := (List.getD x5 1 0)
 let x7 : UInt64 := (List.getD x2 1 0)
 let x8 : UInt64 := (borrow64 x6 x7 x4)
 let x9 : List UInt64 := (List.set x5 1 ((x6 - x7) - x4))
 let x10 : UInt64 := (List.getD x9 2 0)
 let x11 : UInt64 := (List.getD x2 2 0)
 let x12 : UInt64 := (borrow64 x10 x11 x8)
 let x13 : List UInt64 := (List.set x9 2 ((x10 - x11) - x8))
 let x14 : UInt64 := (List.getD x13 3 0)
 let x15 : UInt64 := (List.getD x2 3 0)
 cnd (bit1 x4)
 (cnd (bit1 x8)
 (cnd (bit1 x12)
 (K (AV.tup [AV.w64 4 (List.set x13 3 ((x14 - x15) - x12)), AV.bool ((((UInt64.toNat (borrow64 x14 x15 x12)) : Nat) : Int) == 1)]) [])))) := by kernel_rfl

theorem mul64_eq (x y : UInt64) (K : AV → Heap → Prop) : walk Tryd.E RR CC (fun _ _ => .unroll 6) 3 35 [.u64 x, .u64 y] K = (
 let x0 : UInt64 := (y &&& 4294967295)
 let x1 : UInt64 := (x &&& 4294967295)
 let x2 : UInt64 := (((shr64 x 32) * x0) + (shr64 (x1 * x0) 32))
 K (AV.tup [AV.u64 ((((shr64 x 32) * (shr64 y 32)) + (shr64 x2 32)) + (shr64 ((x2 &&& 4294967295) + (x1 * (shr64 y 32))) 32)), AV.u64 (x * y)]) []) := by kernel_rfl

theorem sub_eq (a0 a1 a2 a3 b0 b1 b2 b3 : UInt64) (K : AV → Heap → Prop) : walk Tryd.E RR CC (fun _ _ => .unroll 6) 3 28 [.w64 4 [a0, a1, a2, a3], .w64 4 [b0, b1, b2, b3]] K = (
 let x0 : List UInt64 := [a0, a1, a2, a3]
 let x1 : UInt64 := (List.getD x0 0 0)
 let x2 : List UInt64 := [b0, b1, b2, b3]
 let x3 : UInt64 := (List.getD x2 0 0)
 let x4 : UInt64 := (borrow64 x1 x3 0)
 let x5 : List UInt64 := (List.set x0 0 ((x1 - x3) - 0))
 let x6 : UInt64 := (List.getD x5 1 0)
 let x7 : UInt64 := (List.getD x2 1 0)
 let x8 : UInt64 := (borrow64 x6 x7 x4)
 let x9 : List UInt64 := (List.set x5 1 ((x6 - x7) - x4))
 let x10 : UInt64 := (List.getD x9 2 0)
 let x11 : UInt64 := (List.getD x2 2 0)
 let x12 : UInt64 := (borrow64 x10 x11 x8)
 let x13 : List UInt64 := (List.set x9 2 ((x10 - x11) - x8))
 let x14 : UInt64 := (List.getD x13 3 0)
 let x15 : UInt64 := (List.getD x2 3 0)
 let x16 : List UInt64 := (List.set x13 3 ((x14 - x15) - x12))
 let x17 : UInt64 := (List.getD x16 0 0)
 let x18 : UInt64 := 18446744073709551597
 let x19 : UInt64 := (carry64 x17 x18 0)
 let x20 : List UInt64 := (List.set x16 0 ((x17 + x18) + 0))
 let x21 : UInt64 := (List.getD x20 1 0)
 let x22 : UInt64 := 18446744073709551615
 let x23 : UInt64 := (carry64 x21 x22 x19)
 let x24 : List UInt64 := (List.set x20 1 ((x21 + x22) + x19))
 let x25 : UInt64 := (List.getD x24 2 0)
 let x26 : UInt64 := (carry64 x25 x22 x23)
 let x27 : List UInt64 := (List.set x24 2 ((x25 + x22) + x23))
 cnd (bit1 x4)
 (cnd (bit1 x8)
 (cnd (bit1 x12)
 (ite2 ((((UInt64.toNat (borrow64 x14 x15 x12)) : Nat) : Int) == 1)
 -- THEN
 (cnd (bit1 x19)
 (cnd (bit1 x23)
 (cnd (bit1 x26)
 (K (AV.w64 4 (List.set x27 3 (((List.getD x27 3 0) + 9223372036854775807) + x26))) []))))
 -- ELSE
 (K (AV.w64 4 x16) []))))) := by kernel_rfl

end Go.Proofs.YtfjmpdoidkblcaaDoor
