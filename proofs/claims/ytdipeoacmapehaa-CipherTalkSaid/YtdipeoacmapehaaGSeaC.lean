import Derived.Test.YtdipeoacmapehaaSeaB
set_option linter.unusedSimpArgs false
set_option linter.unusedVariables false
namespace Go.Proofs.Ytdipeoacmapehaa
open Go Go.V Go.Fld Go.Pol Go.Cha
set_option maxHeartbeats 0
set_option maxRecDepth 100000

theorem sealSeal_eq (k n a b : List UInt8) (fa fb : Bool) (K : AV → Heap → Prop) : walk Try.E RS S2.C (fun _ _ => .unroll 17) 5 13 [.b8 32 k, .b8 12 n, .vec8 fa a, .vec8 fb b] K = (
 let x0 : Nat := (List.length a)
 let x1 : Nat := (List.length b)
 let x2 : List UInt8 := (Cha.streamS k 1 n b)
 let x3 : Nat := (List.length x2)
 let x4 : List UInt8 := (List.take x1 (List.drop 0 x2))
 let x5 : List UInt8 := (sealT k n a x4)
 let x6 : Nat := (x1 + (List.length x5))
 ite2 (ltI 200 ((x0 : Nat) : Int))
 -- THEN
 (K (AV.tup [AV.vec8 Bool.true [], AV.int IntKind.i64 1]) [])
 -- ELSE
 (ite2 (cond Bool.false Bool.true (ltI 800 ((x1 : Nat) : Int)))
 -- THEN
 (K (AV.tup [AV.vec8 Bool.true [], AV.int IntKind.i64 1]) [])
 -- ELSE
 (cnd ((Bool.not (ltB 1600 x1)) && (Bool.not (overB 1 x1)))
 (cnd (Bool.true && (Bool.true && (Bool.true && ((Bool.true && (leB (0 + x1) x3)) && Bool.true))))
 (cnd ((leB x0 1000000) && (leB (List.length x4) 1000000))
 (cnd (x1 == x3)
 (cnd (leB (x6 * 1) 140737488355328)
 (K (AV.tup [AV.sl 0 0 1 x6, AV.int IntKind.i64 0]) [Ent.grow8 (x2 ++ x5) []])))))))) := by kernel_rfl

theorem sealOpen_eq (k n a b : List UInt8) (fa fb : Bool) (K : AV → Heap → Prop) : walk Try.E RS S2.C (fun _ _ => .unroll 17) 5 16 [.b8 32 k, .b8 12 n, .vec8 fa a, .vec8 fb b] K = (
 let x0 : Nat := (List.length a)
 let x1 : Nat := (List.length b)
 let x2 : Int := (wr IntKind.i64 (subI ((x1 : Nat) : Int) 16))
 let x3 : Bool := Bool.true && (sliceOk Option.none (Option.some x2) x1)
 let x4 : List UInt8 := (sliceL Option.none (Option.some x2) b)
 let x5 : Nat := (List.length x4)
 let x6 : List UInt8 := (sliceL (Option.some x2) Option.none b)
 let x7 : Nat := (List.length x6)
 let x8 : Int := ((x7 : Nat) : Int)
 let x9 : Bool := leB (0 + x7) x7
 let x10 : List UInt8 := (sealT k n a x4)
 let x11 : UInt8 := (0 ||| ((List.getD x6 0 0) ^^^ (List.getD x10 0 0)))
 let x12 : UInt8 := (x11 ||| ((List.getD x6 1 0) ^^^ (List.getD x10 1 0)))
 let x13 : UInt8 := (x12 ||| ((List.getD x6 2 0) ^^^ (List.getD x10 2 0)))
 let x14 : UInt8 := (x13 ||| ((List.getD x6 3 0) ^^^ (List.getD x10 3 0)))
 let x15 : UInt8 := (x14 ||| ((List.getD x6 4 0) ^^^ (List.getD x10 4 0)))
 let x16 : UInt8 := (x15 ||| ((List.getD x6 5 0) ^^^ (List.getD x10 5 0)))
 let x17 : UInt8 := (x16 ||| ((List.getD x6 6 0) ^^^ (List.getD x10 6 0)))
 let x18 : UInt8 := (x17 ||| ((List.getD x6 7 0) ^^^ (List.getD x10 7 0)))
 let x19 : UInt8 := (x18 ||| ((List.getD x6 8 0) ^^^ (List.getD x10 8 0)))
 let x20 : UInt8 := (x19 ||| ((List.getD x6 9 0) ^^^ (List.getD x10 9 0)))
 let x21 : UInt8 := (x20 ||| ((List.getD x6 10 0) ^^^ (List.getD x10 10 0)))
 let x22 : UInt8 := (x21 ||| ((List.getD x6 11 0) ^^^ (List.getD x10 11 0)))
 let x23 : UInt8 := (x22 ||| ((List.getD x6 12 0) ^^^ (List.getD x10 12 0)))
 let x24 : UInt8 := (x23 ||| ((List.getD x6 13 0) ^^^ (List.getD x10 13 0)))
 let x25 : UInt8 := (x24 ||| ((List.getD x6 14 0) ^^^ (List.getD x10 14 0)))
 ite2 (ltI 200 ((x0 : Nat) : Int))
 -- THEN
 (K (AV.tup [AV.vec8 Bool.true [], AV.int IntKind.i64 1]) [])
 -- ELSE
 (ite2 (cond Bool.false Bool.true (ltI 800 x2))
 -- THEN
 (K (AV.tup [AV.vec8 Bool.true [], AV.int IntKind.i64 1]) [])
 -- ELSE
 (ite2 (ltI x2 0)
 -- THEN
 (K (AV.tup [AV.vec8 Bool.true [], AV.int IntKind.i64 4]) [])
 -- ELSE
 (cnd (x3)
 (cnd ((leB x0 1000000) && (leB x5 1000000))
 (cnd (Bool.true && (sliceOk (Option.some x2) Option.none x1))
 (ite2 (ltI 0 x8)
 -- THEN
 (cnd ((inB 0 x7) && Bool.true)
 (cnd (x9)
 (ite2 (ltI 1 x8)
 -- THEN
 (cnd ((inB 1 x7) && Bool.true)
 (cnd (x9)
 (ite2 (ltI 2 x8)
 -- THEN
 (cnd ((inB 2 x7) && Bool.true)
 (cnd (x9)
 (ite2 (ltI 3 x8)
 -- THEN
 (cnd ((inB 3 x7) && Bool.true)
 (cnd (x9)
 (ite2 (ltI 4 x8)
 -- THEN
 (cnd ((inB 4 x7) && Bool.true)
 (cnd (x9)
 (ite2 (ltI 5 x8)
 -- THEN
 (cnd ((inB 5 x7) && Bool.true)
 (cnd (x9)
 (ite2 (ltI 6 x8)
 -- THEN
 (cnd ((inB 6 x7) && Bool.true)
 (cnd (x9)
 (ite2 (ltI 7 x8)
 -- THEN
 (cnd ((inB 7 x7) && Bool.true)
 (cnd (x9)
 (ite2 (ltI 8 x8)
 -- THEN
 (cnd ((inB 8 x7) && Bool.true)
 (cnd (x9)
 (ite2 (ltI 9 x8)
 -- THEN
 (cnd ((inB 9 x7) && Bool.true)
 (cnd (x9)
 (ite2 (ltI 10 x8)
 -- THEN
 (cnd ((inB 10 x7) && Bool.true)
 (cnd (x9)
 (ite2 (ltI 11 x8)
 -- THEN
 (cnd ((inB 11 x7) && Bool.true)
 (cnd (x9)
 (ite2 (ltI 12 x8)
 -- THEN
 (cnd ((inB 12 x7) && Bool.true)
 (cnd (x9)
 (ite2 (ltI 13 x8)
 -- THEN
 (cnd ((inB 13 x7) && Bool.true)
 (cnd (x9)
 (ite2 (ltI 14 x8)
 -- THEN
 (cnd ((inB 14 x7) && Bool.true)
 (cnd (x9)
 (ite2 (ltI 15 x8)
 -- THEN
 (cnd ((inB 15 x7) && Bool.true)
 (cnd (x9)
 (ite2 (ltI 16 x8)
 -- THEN
 (cnd ((inB 16 x7) && Bool.true)
 (cnd (x9)
 (stuckC)))
 -- ELSE
 (ite2 ((((UInt8.toNat (x25 ||| ((List.getD x6 15 0) ^^^ (List.getD x10 15 0)))) : Nat) : Int) != 0)
 -- THEN
 (K (AV.tup [AV.vec8 Bool.true [], AV.int IntKind.i64 10]) [])
 -- ELSE
 (cnd (x3)
 (cnd ((Bool.not (ltB 1600 x5)) && (Bool.not (overB 1 x5)))
 (K (AV.tup [AV.sl 0 0 1 x5, AV.int IntKind.i64 0]) [Ent.grow8 (Cha.streamS k 1 n x4) []])))))))
 -- ELSE
 (ite2 ((((UInt8.toNat x25) : Nat) : Int) != 0)
 -- THEN
 (K (AV.tup [AV.vec8 Bool.true [], AV.int IntKind.i64 10]) [])
 -- ELSE
 (cnd (x3)
 (cnd ((Bool.not (ltB 1600 x5)) && (Bool.not (overB 1 x5)))
 (K (AV.tup [AV.sl 0 0 1 x5, AV.int IntKind.i64 0]) [Ent.grow8 (Cha.streamS k 1 n x4) []])))))))
 -- ELSE
 (ite2 ((((UInt8.toNat x24) : Nat) : Int) != 0)
 -- THEN
 (K (AV.tup [AV.vec8 Bool.true [], AV.int IntKind.i64 10]) [])
 -- ELSE
 (cnd (x3)
 (cnd ((Bool.not (ltB 1600 x5)) && (Bool.not (overB 1 x5)))
 (K (AV.tup [AV.sl 0 0 1 x5, AV.int IntKind.i64 0]) [Ent.grow8 (Cha.streamS k 1 n x4) []])))))))
 -- ELSE
 (ite2 ((((UInt8.toNat x23) : Nat) : Int) != 0)
 -- THEN
 (K (AV.tup [AV.vec8 Bool.true [], AV.int IntKind.i64 10]) [])
 -- ELSE
 (cnd (x3)
 (cnd ((Bool.not (ltB 1600 x5)) && (Bool.not (overB 1 x5)))
 (K (AV.tup [AV.sl 0 0 1 x5, AV.int IntKind.i64 0]) [Ent.grow8 (Cha.streamS k 1 n x4) []])))))))
 -- ELSE
 (ite2 ((((UInt8.toNat x22) : Nat) : Int) != 0)
 -- THEN
 (K (AV.tup [AV.vec8 Bool.true [], AV.int IntKind.i64 10]) [])
 -- ELSE
 (cnd (x3)
 (cnd ((Bool.not (ltB 1600 x5)) && (Bool.not (overB 1 x5)))
 (K (AV.tup [AV.sl 0 0 1 x5, AV.int IntKind.i64 0]) [Ent.grow8 (Cha.streamS k 1 n x4) []])))))))
 -- ELSE
 (ite2 ((((UInt8.toNat x21) : Nat) : Int) != 0)
 -- THEN
 (K (AV.tup [AV.vec8 Bool.true [], AV.int IntKind.i64 10]) [])
 -- ELSE
 (cnd (x3)
 (cnd ((Bool.not (ltB 1600 x5)) && (Bool.not (overB 1 x5)))
 (K (AV.tup [AV.sl 0 0 1 x5, AV.int IntKind.i64 0]) [Ent.grow8 (Cha.streamS k 1 n x4) []])))))))
 -- ELSE
 (ite2 ((((UInt8.toNat x20) : Nat) : Int) != 0)
 -- THEN
 (K (AV.tup [AV.vec8 Bool.true [], AV.int IntKind.i64 10]) [])
 -- ELSE
 (cnd (x3)
 (cnd ((Bool.not (ltB 1600 x5)) && (Bool.not (overB 1 x5)))
 (K (AV.tup [AV.sl 0 0 1 x5, AV.int IntKind.i64 0]) [Ent.grow8 (Cha.streamS k 1 n x4) []])))))))
 -- ELSE
 (ite2 ((((UInt8.toNat x19) : Nat) : Int) != 0)
 -- THEN
 (K (AV.tup [AV.vec8 Bool.true [], AV.int IntKind.i64 10]) [])
 -- ELSE
 (cnd (x3)
 (cnd ((Bool.not (ltB 1600 x5)) && (Bool.not (overB 1 x5)))
 (K (AV.tup [AV.sl 0 0 1 x5, AV.int IntKind.i64 0]) [Ent.grow8 (Cha.streamS k 1 n x4) []])))))))
 -- ELSE
 (ite2 ((((UInt8.toNat x18) : Nat) : Int) != 0)
 -- THEN
 (K (AV.tup [AV.vec8 Bool.true [], AV.int IntKind.i64 10]) [])
 -- ELSE
 (cnd (x3)
 (cnd ((Bool.not (ltB 1600 x5)) && (Bool.not (overB 1 x5)))
 (K (AV.tup [AV.sl 0 0 1 x5, AV.int IntKind.i64 0]) [Ent.grow8 (Cha.streamS k 1 n x4) []])))))))
 -- ELSE
 (ite2 ((((UInt8.toNat x17) : Nat) : Int) != 0)
 -- THEN
 (K (AV.tup [AV.vec8 Bool.true [], AV.int IntKind.i64 10]) [])
 -- ELSE
 (cnd (x3)
 (cnd ((Bool.not (ltB 1600 x5)) && (Bool.not (overB 1 x5)))
 (K (AV.tup [AV.sl 0 0 1 x5, AV.int IntKind.i64 0]) [Ent.grow8 (Cha.streamS k 1 n x4) []])))))))
 -- ELSE
 (ite2 ((((UInt8.toNat x16) : Nat) : Int) != 0)
 -- THEN
 (K (AV.tup [AV.vec8 Bool.true [], AV.int IntKind.i64 10]) [])
 -- ELSE
 (cnd (x3)
 (cnd ((Bool.not (ltB 1600 x5)) && (Bool.not (overB 1 x5)))
 (K (AV.tup [AV.sl 0 0 1 x5, AV.int IntKind.i64 0]) [Ent.grow8 (Cha.streamS k 1 n x4) []])))))))
 -- ELSE
 (ite2 ((((UInt8.toNat x15) : Nat) : Int) != 0)
 -- THEN
 (K (AV.tup [AV.vec8 Bool.true [], AV.int IntKind.i64 10]) [])
 -- ELSE
 (cnd (x3)
 (cnd ((Bool.not (ltB 1600 x5)) && (Bool.not (overB 1 x5)))
 (K (AV.tup [AV.sl 0 0 1 x5, AV.int IntKind.i64 0]) [Ent.grow8 (Cha.streamS k 1 n x4) []])))))))
 -- ELSE
 (ite2 ((((UInt8.toNat x14) : Nat) : Int) != 0)
 -- THEN
 (K (AV.tup [AV.vec8 Bool.true [], AV.int IntKind.i64 10]) [])
 -- ELSE
 (cnd (x3)
 (cnd ((Bool.not (ltB 1600 x5)) && (Bool.not (overB 1 x5)))
 (K (AV.tup [AV.sl 0 0 1 x5, AV.int IntKind.i64 0]) [Ent.grow8 (Cha.streamS k 1 n x4) []])))))))
 -- ELSE
 (ite2 ((((UInt8.toNat x13) : Nat) : Int) != 0)
 -- THEN
 (K (AV.tup [AV.vec8 Bool.true [], AV.int IntKind.i64 10]) [])
 -- ELSE
 (cnd (x3)
 (cnd ((Bool.not (ltB 1600 x5)) && (Bool.not (overB 1 x5)))
 (K (AV.tup [AV.sl 0 0 1 x5, AV.int IntKind.i64 0]) [Ent.grow8 (Cha.streamS k 1 n x4) []])))))))
 -- ELSE
 (ite2 ((((UInt8.toNat x12) : Nat) : Int) != 0)
 -- THEN
 (K (AV.tup [AV.vec8 Bool.true [], AV.int IntKind.i64 10]) [])
 -- ELSE
 (cnd (x3)
 (cnd ((Bool.not (ltB 1600 x5)) && (Bool.not (overB 1 x5)))
 (K (AV.tup [AV.sl 0 0 1 x5, AV.int IntKind.i64 0]) [Ent.grow8 (Cha.streamS k 1 n x4) []])))))))
 -- ELSE
 (ite2 ((((UInt8.toNat x11) : Nat) : Int) != 0)
 -- THEN
 (K (AV.tup [AV.vec8 Bool.true [], AV.int IntKind.i64 10]) [])
 -- ELSE
 (cnd (x3)
 (cnd ((Bool.not (ltB 1600 x5)) && (Bool.not (overB 1 x5)))
 (K (AV.tup [AV.sl 0 0 1 x5, AV.int IntKind.i64 0]) [Ent.grow8 (Cha.streamS k 1 n x4) []])))))))
 -- ELSE
 (cnd (x3)
 (cnd ((Bool.not (ltB 1600 x5)) && (Bool.not (overB 1 x5)))
 (K (AV.tup [AV.sl 0 0 1 x5, AV.int IntKind.i64 0]) [Ent.grow8 (Cha.streamS k 1 n x4) []])))))))))) := by kernel_rfl

end Go.Proofs.Ytdipeoacmapehaa
