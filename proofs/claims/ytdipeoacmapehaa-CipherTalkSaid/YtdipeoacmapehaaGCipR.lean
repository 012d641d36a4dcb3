import Derived.Test.YtdipeoacmapehaaCipB
set_option linter.unusedSimpArgs false
set_option linter.unusedVariables false
namespace Go.Proofs.Ytdipeoacmapehaa
open Go Go.V Go.Fld Go.Pol Go.Cha
set_option maxHeartbeats 0
set_option maxRecDepth 100000

theorem crekeyT_eq (k : List UInt8) (n : UInt64) (K : AV → Heap → Prop) : walk Try.E RS C1.C (fun _ _ => .unroll 17) 5 8 [.agg [.bool true, .b8 32 k, .u64 n]] K = (
 let x0 : List UInt8 := (sealS k (cnonceS 18446744073709551615) [] (List.take 32 (List.drop 0 (List.replicate 32 0))))
 let x1 : List UInt8 := (List.take 48 (List.drop 0 x0))
 cnd (Bool.true && (leB 48 (List.length x0)))
 (K (AV.tup [AV.agg [AV.bool Bool.true, AV.b8 32 ((List.take 32 x1) ++ (List.drop (Min.min (List.length x1) 32) k)), AV.u64 n], AV.int IntKind.i64 0]) [])) := by kernel_rfl

theorem crekeyF_eq (k : List UInt8) (n : UInt64) (K : AV → Heap → Prop) : walk Try.E RS C1.C (fun _ _ => .unroll 17) 5 8 [.agg [.bool false, .b8 32 k, .u64 n]] K = (

 ite2 (nilC k n)
 -- THEN
 (K (AV.tup [AV.agg [AV.bool Bool.false, AV.b8 32 [0, 0, 0, 0, 0, 0, 0, 0, 0, 0, 0, 0, 0, 0, 0, 0, 0, 0, 0, 0, 0, 0, 0, 0, 0, 0, 0, 0, 0, 0, 0, 0], AV.u64 0], AV.int IntKind.i64 9]) [])
 -- ELSE
 (K (AV.tup [AV.agg [AV.bool Bool.false, AV.b8 32 [0, 0, 0, 0, 0, 0, 0, 0, 0, 0, 0, 0, 0, 0, 0, 0, 0, 0, 0, 0, 0, 0, 0, 0, 0, 0, 0, 0, 0, 0, 0, 0], AV.u64 0], AV.int IntKind.i64 9]) [])) := by kernel_rfl

end Go.Proofs.Ytdipeoacmapehaa
