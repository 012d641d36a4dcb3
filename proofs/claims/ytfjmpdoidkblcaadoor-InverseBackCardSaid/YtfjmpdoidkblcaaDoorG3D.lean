import Derived.Test.YtfjmpdoidkblcaaDoorF3C
set_option linter.unusedSimpArgs false
set_option linter.unusedVariables false
namespace Go.Proofs.YtfjmpdoidkblcaaDoor
open Go Go.V Go.Fld
set_option maxHeartbeats 0
set_option maxRecDepth 100000

theorem add_eq (a0 a1 a2 a3 b0 b1 b2 b3 : UInt64) (K : AV → Heap → Prop) : walk Tryd.E RR T3.C (fun _ _ => .unroll 6) 3 26 [.w64 4 [a0, a1, a2, a3], .w64 4 [b0, b1, b2, b3]] K = (
 let x0 : List UInt64 := [a0, a1, a2, a3]
 let x1 : UInt64 := (List.getD x0 0 0)
 let x2 : List UInt64 := [b0, b1, b2, b3]
 let x3 : UInt64 := (List.getD x2 0 0)
 let x4 : UInt64 := (carry64 x1 x3 0)
 let x5 : List UInt64 := (List.set x0 0 ((x1 + x3) + 0))
 let x6 : UInt64 := (List.getD x5 1 0)
 let x7 : UInt64 := (List.getD x2 1 0)
 let x8 : UInt64 := (carry64 x6 x7 x4)
 let x9 : List UInt64 := (List.set x5 1 ((x6 + x7) + x4))
 let x10 : UInt64 := (List.getD x9 2 0)
 let x11 : UInt64 := (List.getD x2 2 0)
 let x12 : UInt64 := (carry64 x10 x11 x8)
 let x13 : List UInt64 := (List.set x9 2 ((x10 + x11) + x8))
 let x14 : UInt64 := (List.getD x13 3 0)
 let x15 : UInt64 := (List.getD x2 3 0)
 cnd (bit1 x4)
 (cnd (bit1 x8)
 (cnd (bit1 x12)
 (K (AV.w64 4 (Fld.fes ((Fld.nv (Fld.fes (Fld.plusN (Fld.nv (List.set x13 3 ((x14 + x15) + x12))) (UInt64.toNat (38 * (carry64 x14 x15 x12)))))) % 57896044618658097711785492504343953926634992332820282019728792003956564819949))) [])))) := by kernel_rfl

end Go.Proofs.YtfjmpdoidkblcaaDoor
