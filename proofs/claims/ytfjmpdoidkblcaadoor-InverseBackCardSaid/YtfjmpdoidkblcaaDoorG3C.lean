import Derived.Test.YtfjmpdoidkblcaaDoorF3B
set_option linter.unusedSimpArgs false
set_option linter.unusedVariables false
namespace Go.Proofs.YtfjmpdoidkblcaaDoor
open Go Go.V Go.Fld
set_option maxHeartbeats 0
set_option maxRecDepth 100000

theorem settled_eq (a : List UInt64) (K : AV → Heap → Prop) : walk Tryd.E RR T2.C (fun _ _ => .unroll 3) 3 23 [.w64 4 a] K = (
 let x0 : Nat := 57896044618658097711785492504343953926634992332820282019728792003956564819949
 let x1 : List UInt64 := (Fld.fes (Fld.subT (Fld.nv a) x0))
 let x2 : List UInt64 := (Fld.fes (Fld.subT (Fld.nv x1) x0))
 ite2 (Bool.not (Fld.ltN (Fld.nv a) x0))
 -- THEN
 (ite2 (Bool.not (Fld.ltN (Fld.nv x1) x0))
 -- THEN
 (ite2 (Bool.not (Fld.ltN (Fld.nv x2) x0))
 -- THEN
 (False)
 -- ELSE
 (K (AV.w64 4 x2) []))
 -- ELSE
 (K (AV.w64 4 x1) []))
 -- ELSE
 (K (AV.w64 4 a) [])) := by kernel_rfl

theorem subc_eq (a b : List UInt64) (K : AV → Heap → Prop) : walk Tryd.E RR T2.C (fun _ _ => .unroll 6) 3 28 [.w64 4 a, .w64 4 b] K = (
 let x0 : List UInt64 := (Fld.fes (Fld.subT (Fld.nv a) (Fld.nv b)))
 let x1 : UInt64 := (List.getD x0 0 0)
 let x2 : UInt64 := 18446744073709551597
 let x3 : UInt64 := (carry64 x1 x2 0)
 let x4 : List UInt64 := (List.set x0 0 ((x1 + x2) + 0))
 let x5 : UInt64 := (List.getD x4 1 0)
 let x6 : UInt64 := 18446744073709551615
 let x7 : UInt64 := (carry64 x5 x6 x3)
 let x8 : List UInt64 := (List.set x4 1 ((x5 + x6) + x3))
 let x9 : UInt64 := (List.getD x8 2 0)
 let x10 : UInt64 := (carry64 x9 x6 x7)
 let x11 : List UInt64 := (List.set x8 2 ((x9 + x6) + x7))
 ite2 (Fld.ltN (Fld.nv a) (Fld.nv b))
 -- THEN
 (cnd (bit1 x3)
 (cnd (bit1 x7)
 (cnd (bit1 x10)
 (K (AV.w64 4 (List.set x11 3 (((List.getD x11 3 0) + 9223372036854775807) + x10))) []))))
 -- ELSE
 (K (AV.w64 4 x0) [])) := by kernel_rfl

end Go.Proofs.YtfjmpdoidkblcaaDoor
