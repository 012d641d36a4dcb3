import Derived.Test.YtdipeoacmapehaaSeaC
set_option linter.unusedSimpArgs false
set_option linter.unusedVariables false
namespace Go.Proofs.Ytdipeoacmapehaa
open Go Go.V Go.Fld Go.Pol Go.Cha
set_option maxHeartbeats 0
set_option maxRecDepth 100000

theorem cnonce_eq (n : UInt64) (K : AV → Heap → Prop) : walk Try.E RS S3.C (fun _ _ => .unroll 17) 5 15 [.u64 n] K = (

 K (AV.b8 12 (List.set (List.set (List.set (List.set (List.set (List.set (List.set (List.set [0, 0, 0, 0, 0, 0, 0, 0, 0, 0, 0, 0] 4 (UInt64.toUInt8 (shr64 n 0))) 5 (UInt64.toUInt8 (shr64 n 8))) 6 (UInt64.toUInt8 (shr64 n 16))) 7 (UInt64.toUInt8 (shr64 n 24))) 8 (UInt64.toUInt8 (shr64 n 32))) 9 (UInt64.toUInt8 (shr64 n 40))) 10 (UInt64.toUInt8 (shr64 n 48))) 11 (UInt64.toUInt8 (shr64 n 56)))) []) := by kernel_rfl

theorem cbegin_eq (k : List UInt8) (K : AV → Heap → Prop) : walk Try.E RS S3.C (fun _ _ => .unroll 17) 5 5 [.b8 32 k] K = (

 K (AV.agg [AV.bool Bool.true, AV.b8 32 k, AV.u64 0]) []) := by kernel_rfl

theorem ccheck_eq (b : Bool) (k : List UInt8) (n : UInt64) (K : AV → Heap → Prop) : walk Try.E RS S3.C (fun _ _ => .unroll 17) 5 14 [.agg [.bool b, .b8 32 k, .u64 n]] K = (

 ite2 (Bool.not b)
 -- THEN
 (ite2 (cond Bool.true (Bool.not ((b == Bool.false) && ((k == [0, 0, 0, 0, 0, 0, 0, 0, 0, 0, 0, 0, 0, 0, 0, 0, 0, 0, 0, 0, 0, 0, 0, 0, 0, 0, 0, 0, 0, 0, 0, 0]) && ((n == 0) && Bool.true)))) Bool.false)
 -- THEN
 (K (AV.int IntKind.i64 9) [])
 -- ELSE
 (K (AV.int IntKind.i64 0) []))
 -- ELSE
 (K (AV.int IntKind.i64 0) [])) := by kernel_rfl

end Go.Proofs.Ytdipeoacmapehaa
