import Derived.Test.YtfpladpbnbpehaaPnsC
set_option linter.unusedSimpArgs false
set_option linter.unusedVariables false
namespace Go.Proofs.Ytfpladpbnbpehaa
open Go Go.V Go.Pin
set_option maxHeartbeats 0
set_option maxRecDepth 100000

theorem rot1_eq (nm key k : List UInt8) (gone : Bool) (K : AV → Heap → Prop) : walk Try.E R1 P2.C (fun _ _ => .unroll 2) 5 32 [.agg [.str nm, .b8 32 key, .bool gone], .vp [.b8 32 k] 0] K = (

 K (AV.sl 0 0 34 1) [Ent.grow 34 [AV.agg [AV.str nm, AV.b8 32 k, AV.bool Bool.false]] []]) := by kernel_rfl

theorem rev1_eq (nm key : List UInt8) (gone : Bool) (K : AV → Heap → Prop) : walk Try.E R1 P2.C (fun _ _ => .unroll 2) 5 34 [.agg [.str nm, .b8 32 key, .bool gone]] K = (

 K (AV.sl 0 0 34 1) [Ent.grow 34 [AV.agg [AV.str nm, AV.b8 32 key, AV.bool Bool.true]] []]) := by kernel_rfl

theorem for1_eq (nm key : List UInt8) (gone : Bool) (K : AV → Heap → Prop) : walk Try.E R1 P2.C (fun _ _ => .unroll 2) 5 33 [.agg [.str nm, .b8 32 key, .bool gone]] K = (

 K (AV.vec8 Bool.true []) []) := by kernel_rfl

end Go.Proofs.Ytfpladpbnbpehaa
