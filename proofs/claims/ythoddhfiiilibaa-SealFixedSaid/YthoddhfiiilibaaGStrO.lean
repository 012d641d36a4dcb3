import Derived.Test.YthoddhfiiilibaaStr
set_option linter.unusedSimpArgs false
set_option linter.unusedVariables false
namespace Go.Proofs.Ythoddhfiiilibaa
open Go Go.V Go.Cha
set_option maxHeartbeats 0
set_option maxRecDepth 100000

theorem over_eq (k : List UInt8) (n m : Int) (K : AV → Heap → Prop) : walk Try.E RS T4.C (fun _ _ => .unroll 17) 5 5 [.b8 32 k, .int .i64 n, .int .i64 m] K = (
 let x0 : Int := (wr IntKind.i64 (64 * (wr IntKind.i64 ((n % 5) + 1))))
 let x1 : Nat := (Int.toNat x0)
 let x2 : Nat := 140737488355328
 let x3 : List UInt8 := (List.replicate x1 0)
 let x4 : Nat := (List.length (List.take x1 (List.drop 0 x3)))
 let x5 : Int := (wr IntKind.i64 ((wr IntKind.i64 (x0 + 1)) + (m % 100)))
 let x6 : Nat := (Int.toNat x5)
 let x7 : Bool := leB (x6 * 1) x2
 let x8 : List UInt8 := (List.replicate x6 0)
 let x9 : Bool := Bool.true && (Bool.true && (Bool.true && ((Bool.true && (leB (0 + x6) (List.length x8))) && Bool.true)))
 let x10 : Nat := (List.length (List.take x6 (List.drop 0 x8)))
 let x11 : UInt32 := (4294967295 - (UInt32.ofNat (Int.toNat ((n % 5) % 4294967296))))
 let x12 : Bool := overB x11 x10
 cnd (nnB x0)
 (cnd (x0 == x0)
 (cnd (leB (x1 * 1) x2)
 (cnd (Bool.true && (Bool.true && (Bool.true && ((Bool.true && (leB (0 + x1) (List.length x3))) && Bool.true))))
 (ite2 (ltB 1600 x4)
 -- THEN
 (cnd (nnB x5)
 (cnd (x5 == x5)
 (cnd (x7)
 (cnd (x9)
 (ite2 (ltB 1600 x10)
 -- THEN
 (K (AV.bool Bool.false) [])
 -- ELSE
 (ite2 (x12)
 -- THEN
 (K (AV.bool Bool.false) [])
 -- ELSE
 (K (AV.bool Bool.false) [])))))))
 -- ELSE
 (ite2 (overB x11 x4)
 -- THEN
 (cnd (nnB x5)
 (cnd (x5 == x5)
 (cnd (x7)
 (cnd (x9)
 (ite2 (ltB 1600 x10)
 -- THEN
 (K (AV.bool Bool.false) [])
 -- ELSE
 (ite2 (x12)
 -- THEN
 (K (AV.bool Bool.false) [])
 -- ELSE
 (K (AV.bool Bool.false) [])))))))
 -- ELSE
 (cnd (nnB x5)
 (cnd (x5 == x5)
 (cnd (x7)
 (cnd (x9)
 (ite2 (ltB 1600 x10)
 -- THEN
 (K (AV.bool Bool.false) [])
 -- ELSE
 (ite2 (x12)
 -- THEN
 (K (AV.bool Bool.true) [])
 -- ELSE
 (K (AV.bool Bool.false) []))))))))))))) := by kernel_rfl

theorem nonce_eq (a b c : Int) (s : List UInt8) (K : AV → Heap → Prop) : walk Try.E RS T4.C (fun _ _ => .unroll 17) 5 13 [.agg [.int .i64 a, .int .i64 b, .int .i64 c, .str s]] K = (

 K (AV.b8 12 (List.set (List.set ((List.take 12 s) ++ (List.drop (Min.min (List.length s) 12) [0, 0, 0, 0, 0, 0, 0, 0, 0, 0, 0, 0])) 10 (UInt8.ofNat (Int.toNat (b % 256)))) 11 (UInt8.ofNat (Int.toNat (c % 256))))) []) := by kernel_rfl

end Go.Proofs.Ythoddhfiiilibaa
