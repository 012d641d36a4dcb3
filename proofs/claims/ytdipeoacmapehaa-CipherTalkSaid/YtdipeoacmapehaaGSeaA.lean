import Derived.Test.YtdipeoacmapehaaPly
import Derived.Test.YtdipeoacmapehaaStr
set_option linter.unusedSimpArgs false
set_option linter.unusedVariables false
namespace Go.Proofs.Ytdipeoacmapehaa
open Go Go.V Go.Fld Go.Pol Go.Cha
set_option maxHeartbeats 0
set_option maxRecDepth 100000

theorem eight_eq (n : Int) (K : AV → Heap → Prop) : walk Try.E RS P5.C (fun _ _ => .unroll 17) 5 22 [.int .i64 n] K = (

 K (AV.sl 0 0 1 8) [Ent.grow8 (List.set (List.set (List.set (List.set (List.set (List.set (List.set (List.set (List.replicate 8 0) 0 (UInt8.ofNat (Int.toNat ((Int.fdiv n 1) % 256)))) 1 (UInt8.ofNat (Int.toNat ((Int.fdiv n 256) % 256)))) 2 (UInt8.ofNat (Int.toNat ((Int.fdiv n 65536) % 256)))) 3 (UInt8.ofNat (Int.toNat ((Int.fdiv n 16777216) % 256)))) 4 (UInt8.ofNat (Int.toNat ((Int.fdiv n 4294967296) % 256)))) 5 (UInt8.ofNat (Int.toNat ((Int.fdiv n 1099511627776) % 256)))) 6 (UInt8.ofNat (Int.toNat ((Int.fdiv n 281474976710656) % 256)))) 7 (UInt8.ofNat (Int.toNat ((Int.fdiv n 72057594037927936) % 256)))) []]) := by kernel_rfl

theorem padded_eq (b : List UInt8) (full : Bool) (K : AV → Heap → Prop) : walk Try.E RS P5.C (fun _ _ => .unroll 17) 5 20 [.vec8 full b] K = (
 let x0 : Nat := (List.length b)
 let x1 : Int := ((x0 : Nat) : Int)
 let x2 : Int := (bits BinOp.and IntKind.i64 (wr IntKind.i64 (subI 0 x1)) 15)
 let x3 : List UInt8 := (sliceL Option.none (Option.some x1) b)
 let x4 : Nat := (List.length x3)
 let x5 : Nat := (Int.toNat x2)
 let x6 : Nat := 140737488355328
 let x7 : List UInt8 := (List.replicate x5 0)
 let x8 : Nat := (List.length x7)
 cnd ((Bool.true && (x1 == x1)) && (sliceOk Option.none (Option.some x1) x0))
 (cnd (Bool.true && (nnB x2))
 (cnd (leB ((x4 + x5) * 1) x6)
 (ite2 (List.isEmpty x3)
 -- THEN
 (cnd (leB (x8 * 1) x6)
 (K (AV.sl 0 0 1 x8) [Ent.grow8 x7 []]))
 -- ELSE
 (ite2 (List.isEmpty x7)
 -- THEN
 (K (AV.vec8 Bool.true x3) [])
 -- ELSE
 (cnd (leB ((x4 + x8) * 1) x6)
 (K (AV.sl 0 0 1 (x4 + x8)) [Ent.grow8 (x3 ++ x7) []]))))))) := by kernel_rfl

end Go.Proofs.Ytdipeoacmapehaa
