import Derived.Test.YthoddhfiiilibaaStrD
import Derived.Test.YthoddhfiiilibaaInv
set_option linter.unusedSimpArgs false
set_option linter.unusedVariables false
namespace Go.Proofs.Ythoddhfiiilibaa
open Go Go.V Go.Cha
set_option maxHeartbeats 0
set_option maxRecDepth 100000

theorem twice_eq (k b : List UInt8) (x : Raw3) (n : Int) (K : AV → Heap → Prop) : walk Try.E RS T5.C (fun f l => bif f == 4 then Inv.count [2, 10, 11, 12, 13, 14, 15, 16, 17, 68] 68 69 else .unroll 17) 5 4 [.b8 32 k, x.av, .vec8 false b, .int .i64 n] K = (
 let x0 : Nat := (List.length b)
 let x1 : Int := ((x0 : Nat) : Int)
 let x2 : List UInt8 := (sliceL Option.none (Option.some (cond Bool.false (Max.max x1 300) (Min.min x1 300))) b)
 let x3 : Nat := (List.length x2)
 let x4 : UInt32 := (UInt32.ofNat (Int.toNat ((n % 4) % 4294967296)))
 let x5 : List UInt8 := (Raw3.text x)
 let x6 : List UInt8 := (nonceS (Raw3.a x) (Raw3.b x) x5)
 let x7 : List UInt8 := (Cha.streamS k x4 x6 x2)
 let x8 : Nat := (List.length x7)
 let x9 : Bool := (leB (0 + x3) x8)
 let x10 : List UInt8 := (List.take x3 (List.drop 0 x7))
 let x11 : Nat := (List.length x10)
 let x12 : Int := ((x3 : Nat) : Int)
 let x13 : Int := (cond Bool.false (Max.max 64 x12) (Min.min 64 x12))
 let x14 : Bool := Bool.true && (sliceOk (Option.some x13) Option.none x3)
 let x15 : List UInt8 := (sliceL (Option.some x13) Option.none x2)
 let x16 : Nat := (List.length x15)
 let x17 : UInt32 := (UInt32.ofNat (Int.toNat ((wr IntKind.i64 ((n % 4) + 1)) % 4294967296)))
 let x18 : List UInt8 := Cha.streamS k x4 x6 x10
 let x19 : List UInt8 := Cha.streamS k x17 x6 x15
 let x20 : List UInt8 := (Cha.blockS k x4 x6)
 let x21 : Nat := (loN (Option.some x13))
 let x22 : Nat := (0 + (x21 * 1))
 let x23 : Nat := ((hiN x3 Option.none) - x21)
 cnd (Bool.true && (sliceOk Option.none (Option.some (cond Bool.false (Max.max x1 300) (Min.min x1 300))) x0))
 (cnd ((Bool.not (ltB 1600 x3)) && (Bool.not (overB x4 x3)))
 (cnd (Bool.true && (Bool.true && (Bool.true && ((Bool.true && x9) && Bool.true))))
 (cnd ((Bool.not (ltB 1600 x11)) && (Bool.not (overB x4 x11)))
 (cnd (x14)
 (cnd ((Bool.not (ltB 1600 x16)) && (Bool.not (overB x17 x16)))
 ((∃ w0 : Nat, (Inv.upTo [AV.int IntKind.i64 x13] w0) ∧ ((AV.vec8 Bool.false x2 = AV.vec8 Bool.false x2) ∧ ((AV.sl (shift ((((((2 + 0) + 0) + 0) + 0) + 3) + 0) 0) 0 1 x3 = AV.sl (shift ((((((2 + 0) + 0) + 0) + 0) + 3) + 0) 0) 0 1 x3) ∧ ((AV.int IntKind.i64 0 = AV.int IntKind.i64 0) ∧ ((AV.sl (shift ((((((6 + 0) + 0) + 0) + 0) + 3) + 0) 0) 0 1 x11 = AV.sl (shift ((((((6 + 0) + 0) + 0) + 0) + 3) + 0) 0) 0 1 x11) ∧ ((AV.int IntKind.i64 0 = AV.int IntKind.i64 0) ∧ ((AV.int IntKind.i64 x13 = AV.int IntKind.i64 x13) ∧ ((AV.sl (shift (((((((((10 + 0) + 0) + 0) + 0) + 0) + 3) + 0) + 0) + 0) 0) 0 1 x16 = AV.sl (shift (((((((((10 + 0) + 0) + 0) + 0) + 0) + 3) + 0) + 0) + 0) 0) 0 1 x16) ∧ ((AV.int IntKind.i64 0 = AV.int IntKind.i64 0) ∧ ((AV.int IntKind.i64 x13 = AV.int IntKind.i64 x13) ∧ ((AV.int IntKind.i64 0 = AV.int IntKind.i64 ((w0 : Nat) : Int)) ∧ ((AV.b8 32 k = AV.b8 32 k) ∧ ((AV.int IntKind.i64 (Raw3.kind x) = AV.int IntKind.i64 (Raw3.kind x)) ∧ ((AV.int IntKind.i64 (Raw3.a x) = AV.int IntKind.i64 (Raw3.a x)) ∧ ((AV.int IntKind.i64 (Raw3.b x) = AV.int IntKind.i64 (Raw3.b x)) ∧ ((AV.str x5 = AV.str x5) ∧ ((x7 = x7) ∧ ((x18 = x18) ∧ ((x19 = x19) ∧ ((AV.b8 64 x20 = AV.b8 64 x20) ∧ True)))))))))))))))))))) ∧ (∀ w1 : Nat, (Inv.upTo [AV.int IntKind.i64 x13] w1 → ite2 (ltI ((w1 : Nat) : Int) x13)
 -- THEN
 (ite2 (Bool.not (ltI ((w1 : Nat) : Int) x12))
 -- THEN
 (K (AV.bool Bool.false) [])
 -- ELSE
 (cnd ((inB ((w1 : Nat) : Int) x3) && Bool.true)
 (cnd (x9)
 (cnd ((inB ((w1 : Nat) : Int) x3) && Bool.true)
 (cnd (leB (0 + x3) x3)
 (cnd (inB ((w1 : Nat) : Int) 64)
 (ite2 (cond Bool.false Bool.true ((((UInt8.toNat (List.getD x7 (ofs 0 ((w1 : Nat) : Int)) 0)) : Nat) : Int) != (((UInt8.toNat ((List.getD x2 (ofs 0 ((w1 : Nat) : Int)) 0) ^^^ (List.getD x20 (ofs 0 ((w1 : Nat) : Int)) 0))) : Nat) : Int)))
 -- THEN
 (K (AV.bool Bool.false) [])
 -- ELSE
 ((∃ w2 : Nat, (((Inv.up w2) < (Inv.up w1)) ∧ (Inv.upTo [AV.int IntKind.i64 x13] w2)) ∧ ((AV.vec8 Bool.false x2 = AV.vec8 Bool.false x2) ∧ ((AV.sl (shift ((((((2 + 0) + 0) + 0) + 0) + 3) + 0) 0) 0 1 x3 = AV.sl (shift ((((((2 + 0) + 0) + 0) + 0) + 3) + 0) 0) 0 1 x3) ∧ ((AV.int IntKind.i64 0 = AV.int IntKind.i64 0) ∧ ((AV.sl (shift ((((((6 + 0) + 0) + 0) + 0) + 3) + 0) 0) 0 1 x11 = AV.sl (shift ((((((6 + 0) + 0) + 0) + 0) + 3) + 0) 0) 0 1 x11) ∧ ((AV.int IntKind.i64 0 = AV.int IntKind.i64 0) ∧ ((AV.int IntKind.i64 x13 = AV.int IntKind.i64 x13) ∧ ((AV.sl (shift (((((((((10 + 0) + 0) + 0) + 0) + 0) + 3) + 0) + 0) + 0) 0) 0 1 x16 = AV.sl (shift (((((((((10 + 0) + 0) + 0) + 0) + 0) + 3) + 0) + 0) + 0) 0) 0 1 x16) ∧ ((AV.int IntKind.i64 0 = AV.int IntKind.i64 0) ∧ ((AV.int IntKind.i64 x13 = AV.int IntKind.i64 x13) ∧ ((AV.int IntKind.i64 (wr IntKind.i64 (((w1 : Nat) : Int) + 1)) = AV.int IntKind.i64 ((w2 : Nat) : Int)) ∧ ((AV.b8 32 k = AV.b8 32 k) ∧ ((AV.int IntKind.i64 (Raw3.kind x) = AV.int IntKind.i64 (Raw3.kind x)) ∧ ((AV.int IntKind.i64 (Raw3.a x) = AV.int IntKind.i64 (Raw3.a x)) ∧ ((AV.int IntKind.i64 (Raw3.b x) = AV.int IntKind.i64 (Raw3.b x)) ∧ ((AV.str x5 = AV.str x5) ∧ ((x7 = x7) ∧ ((x18 = x18) ∧ ((x19 = x19) ∧ ((AV.b8 64 x20 = AV.b8 64 x20) ∧ True))))))))))))))))))))))))))))
 -- ELSE
 (cnd (Bool.true && (leB (0 + x11) (List.length x18)))
 (ite2 (cond Bool.true ((List.take x11 (List.drop 0 x18)) == x2) Bool.false)
 -- THEN
 (cnd (x14)
 (cnd (Bool.true && (leB (x22 + x23) x8))
 (cnd (Bool.true && (leB (0 + x16) (List.length x19)))
 (K (AV.bool (cond Bool.true ((List.take x23 (List.drop x22 x7)) == (List.take x16 (List.drop 0 x19))) Bool.false)) []))))
 -- ELSE
 (K (AV.bool Bool.false) [])))))))))))) := by kernel_rfl

end Go.Proofs.Ythoddhfiiilibaa
