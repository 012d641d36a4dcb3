import Derived.Test.YthoddhfiiilibaaSeaC
import Derived.Test.YthoddhfiiilibaaWR
set_option linter.unusedSimpArgs false
set_option linter.unusedVariables false
namespace Go.Proofs.Ythoddhfiiilibaa
open Go Go.V Go.Fld Go.Pol Go.Cha
set_option maxHeartbeats 0
set_option maxRecDepth 100000

theorem sealBack_eq (k ad text : List UInt8) (x : Raw3) (K : AV → Heap → Prop) : walk Try.E RS S3.C (fun _ _ => .unroll 17) 5 8 [.b8 32 k, x.av, .vec8 false ad, .vec8 false text] K = (
 let x0 : Nat := (List.length ad)
 let x1 : Int := ((x0 : Nat) : Int)
 let x2 : Nat := (List.length text)
 let x3 : Int := ((x2 : Nat) : Int)
 let x4 : List UInt8 := (sliceL Option.none (Option.some (cond Bool.false (Max.max x1 200) (Min.min x1 200))) ad)
 let x5 : Bool := (ltB 200 (List.length x4))
 let x6 : List UInt8 := (sliceL Option.none (Option.some (cond Bool.false (Max.max x3 400) (Min.min x3 400))) text)
 let x7 : Nat := (List.length x6)
 let x8 : List UInt8 := (nonceS (Raw3.a x) (Raw3.b x) (Raw3.text x))
 let x9 : List UInt8 := (sealS k x8 x4 x6)
 let x10 : Nat := (List.length x9)
 let x11 : List UInt8 := (List.drop 0 x9)
 let x12 : List UInt8 := (List.take (x7 + 16) x11)
 let x13 : Nat := (List.length x12)
 let x14 : Int := (((x7 + 16) : Nat) : Int)
 let x15 : Int := (wr IntKind.i64 (x14 + 1))
 let x16 : Int := (cond Bool.false (Max.max x15 16) (Min.min x15 16))
 let x17 : Int := 9223372036854775807
 let x18 : Bool := (Decidable.decide (0 < x16)) && (Decidable.decide (x16 ≤ x17))
 let x19 : Bool := Bool.true && (sliceOk Option.none (Option.some ((Raw3.a x) % x16)) (x7 + 16))
 let x20 : Nat := ((hiN (x7 + 16) (Option.some ((Raw3.a x) % x16))) - 0)
 let x21 : Bool := Bool.true && (Bool.true && (Bool.true && ((Bool.true && (leB (0 + x20) x10)) && Bool.true)))
 let x22 : List UInt8 := (List.take x20 x11)
 let x23 : Nat := (List.length x22)
 let x24 : Bool := leB x23 1000000000
 let x25 : Bool := x5 || (ltB 816 x23)
 let x26 : List UInt8 := (plainS k x8 x12)
 cnd (Bool.true && (sliceOk Option.none (Option.some (cond Bool.false (Max.max x1 200) (Min.min x1 200))) x0))
 (cnd (Bool.true && (sliceOk Option.none (Option.some (cond Bool.false (Max.max x3 400) (Min.min x3 400))) x2))
 (cnd ((Bool.not x5) && (Bool.not (ltB 800 x7)))
 (cnd (Bool.true && (Bool.true && (Bool.true && ((Bool.true && (leB (0 + (x7 + 16)) x10)) && Bool.true))))
 (cnd (leB x13 1000000000)
 (ite2 (x5 || (ltB 816 x13))
 -- THEN
 (cnd (x18)
 (cnd (x19)
 (cnd (x21)
 (cnd (x24)
 (ite2 (x25)
 -- THEN
 (K (AV.bool Bool.false) [])
 -- ELSE
 (ite2 (ltB x23 16)
 -- THEN
 (K (AV.bool Bool.false) [])
 -- ELSE
 (ite2 (badS k x8 x4 x22)
 -- THEN
 (K (AV.bool Bool.false) [])
 -- ELSE
 (K (AV.bool Bool.false) []))))))))
 -- ELSE
 (ite2 (ltB x13 16)
 -- THEN
 (cnd (x18)
 (cnd (x19)
 (cnd (x21)
 (cnd (x24)
 (ite2 (x25)
 -- THEN
 (K (AV.bool Bool.false) [])
 -- ELSE
 (ite2 (ltB x23 16)
 -- THEN
 (K (AV.bool Bool.false) [])
 -- ELSE
 (ite2 (badS k x8 x4 x22)
 -- THEN
 (K (AV.bool Bool.false) [])
 -- ELSE
 (K (AV.bool Bool.false) []))))))))
 -- ELSE
 (ite2 (badS k x8 x4 x12)
 -- THEN
 (cnd (x18)
 (cnd (x19)
 (cnd (x21)
 (cnd (x24)
 (ite2 (x25)
 -- THEN
 (K (AV.bool Bool.false) [])
 -- ELSE
 (ite2 (ltB x23 16)
 -- THEN
 (K (AV.bool Bool.false) [])
 -- ELSE
 (ite2 (badS k x8 x4 x22)
 -- THEN
 (K (AV.bool Bool.false) [])
 -- ELSE
 (K (AV.bool Bool.false) []))))))))
 -- ELSE
 (cnd (x18)
 (cnd (x19)
 (cnd (x21)
 (cnd (x24)
 (ite2 (x25)
 -- THEN
 (K (AV.bool Bool.false) [])
 -- ELSE
 (ite2 (ltB x23 16)
 -- THEN
 (ite2 (cond Bool.true (x14 == (wr IntKind.i64 (((x7 : Nat) : Int) + 16))) Bool.false)
 -- THEN
 (cnd (Bool.true && (leB (0 + (x13 - 16)) (List.length x26)))
 (K (AV.bool (cond Bool.true ((List.take (x13 - 16) (List.drop 0 x26)) == x6) Bool.false)) []))
 -- ELSE
 (K (AV.bool Bool.false) []))
 -- ELSE
 (ite2 (badS k x8 x4 x22)
 -- THEN
 (K (AV.bool Bool.false) [])
 -- ELSE
 (K (AV.bool Bool.false) [])))))))))))))))) := by kernel_rfl

theorem sealFixed_eq (k ad text : List UInt8) (x : Raw3) (n : Int) (y : UInt8) (K : AV → Heap → Prop) : walk Try.E RS S3.C (fun _ _ => .unroll 17) 5 9 [.b8 32 k, x.av, .vec8 false ad, .vec8 false text, .int .i64 n, .u8 y] K = (
 let x0 : Nat := (List.length ad)
 let x1 : Int := ((x0 : Nat) : Int)
 let x2 : Nat := (List.length text)
 let x3 : Int := ((x2 : Nat) : Int)
 let x4 : List UInt8 := (sliceL Option.none (Option.some (cond Bool.false (Max.max x1 200) (Min.min x1 200))) ad)
 let x5 : Bool := (ltB 200 (List.length x4))
 let x6 : Bool := (Bool.not x5)
 let x7 : List UInt8 := (sliceL Option.none (Option.some (cond Bool.false (Max.max x3 400) (Min.min x3 400))) text)
 let x8 : Nat := (List.length x7)
 let x9 : Int := (((x8 + 16) : Nat) : Int)
 let x10 : Int := 9223372036854775807
 let x11 : Bool := (inB (n % x9) (x8 + 16)) && Bool.true
 let x12 : Nat := (0 + (x8 + 16))
 let x13 : List UInt8 := (nonceS (Raw3.a x) (Raw3.b x) (Raw3.text x))
 let x14 : List UInt8 := (sealS k x13 x4 x7)
 let x15 : Nat := (ofs 0 (n % x9))
 let x16 : List UInt8 := (List.set x14 x15 ((List.getD x14 x15 0) ^^^ y))
 let x17 : Bool := (Bool.true && (leB x12 (List.length x16)))
 let x18 : List UInt8 := (List.take (x8 + 16) (List.drop 0 x16))
 let x19 : Nat := (List.length x18)
 let x20 : List UInt8 := (plainS k x13 x18)
 let x21 : List UInt8 := (List.take (x19 - 16) (List.drop 0 x20))
 let x22 : Nat := (List.length x21)
 let x23 : List UInt8 := (sealS k x13 x4 x21)
 cnd (Bool.true && (sliceOk Option.none (Option.some (cond Bool.false (Max.max x1 200) (Min.min x1 200))) x0))
 (cnd (Bool.true && (sliceOk Option.none (Option.some (cond Bool.false (Max.max x3 400) (Min.min x3 400))) x2))
 (cnd (x6 && (Bool.not (ltB 800 x8)))
 (cnd ((Decidable.decide (0 < x9)) && (Decidable.decide (x9 ≤ x10)))
 (cnd (x11)
 (cnd (leB x12 (List.length x14))
 (cnd (x11)
 (cnd ((Bool.true && ((leB x12 (szL (Ent.cells (Ent.grow8 x14 [])))) && Bool.true)) && Bool.true)
 (cnd (Bool.true && (Bool.true && (Bool.true && (x17 && Bool.true))))
 (cnd (leB x19 1000000000)
 (ite2 (x5 || (ltB 816 x19))
 -- THEN
 (K (AV.bool Bool.false) [])
 -- ELSE
 (ite2 (ltB x19 16)
 -- THEN
 (K (AV.bool Bool.false) [])
 -- ELSE
 (ite2 (badS k x13 x4 x18)
 -- THEN
 (K (AV.bool (cond Bool.true ((((UInt8.toNat y) : Nat) : Int) != 0) Bool.false)) [])
 -- ELSE
 (cnd (Bool.true && (Bool.true && (Bool.true && ((Bool.true && (leB (0 + (x19 - 16)) (List.length x20))) && Bool.true))))
 (cnd (x6 && (Bool.not (ltB 800 x22)))
 (cnd (Bool.true && (leB (0 + (x22 + 16)) (List.length x23)))
 (cnd (x17)
 (K (AV.bool (cond Bool.true ((List.take (x22 + 16) (List.drop 0 x23)) == x18) Bool.false)) [])))))))))))))))))) := by kernel_rfl

end Go.Proofs.Ythoddhfiiilibaa
