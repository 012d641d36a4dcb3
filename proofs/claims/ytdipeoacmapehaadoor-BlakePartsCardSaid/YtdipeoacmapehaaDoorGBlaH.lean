import Derived.Test.YtdipeoacmapehaaDoorBlaI
set_option linter.unusedSimpArgs false
set_option linter.unusedVariables false
namespace Go.Proofs.YtdipeoacmapehaaDoor
open Go Go.V Go.Cha Go.Bla
set_option maxHeartbeats 0
set_option maxRecDepth 100000

theorem bknown0_eq (n : Int) (K : AV → Heap → Prop) : walk Tryd.E RS (BK 0 (.inl rfl)).C (fun _ l => .unroll 5) 5 4 [.int .i64 n] K = (

 cnd (Bool.true && (Decidable.decide (n % 2 = 0)))
 (K (AV.bool ((List.take 4 (Bla.sumS (List.take 3 (List.drop 0 (Array.toList (ByteArray.data (ByteArray.mk (List.toArray [97, 98, 99])))))))) == (Array.toList (ByteArray.data (ByteArray.mk (List.toArray [80, 140, 94, 140])))))) [])) := by kernel_rfl

theorem bknown1_eq (n : Int) (K : AV → Heap → Prop) : walk Tryd.E RS (BK 1 (.inr rfl)).C (fun _ l => .unroll 5) 5 4 [.int .i64 n] K = (

 cnd (Bool.true && (Decidable.decide (n % 2 = 1)))
 (K (AV.bool ((List.take 4 (Bla.sumS (List.take 0 (List.drop 0 (Array.toList (ByteArray.data (ByteArray.mk (List.toArray [])))))))) == (Array.toList (ByteArray.data (ByteArray.mk (List.toArray [105, 33, 122, 48])))))) [])) := by kernel_rfl

theorem bparts_eq (b : List UInt8) (n m : Int) (K : AV → Heap → Prop) : walk Tryd.E RS B5.C (fun _ l => .unroll 5) 5 3 [.vec8 false b, .int .i64 n, .int .i64 m] K = (
 let x0 : Nat := (List.length b)
 let x1 : Int := ((x0 : Nat) : Int)
 let x2 : List UInt8 := (sliceL Option.none (Option.some (cond Bool.false (Max.max x1 300) (Min.min x1 300))) b)
 let x3 : Nat := (List.length x2)
 let x4 : Int := ((x3 : Nat) : Int)
 let x5 : Int := (wr IntKind.i64 (x4 + 1))
 let x6 : Int := 9223372036854775807
 let x7 : Int := (wr IntKind.i64 ((wr IntKind.i64 (subI x4 (n % x5))) + 1))
 let x8 : List UInt8 := (Bla.BS.held Bla.startS)
 let x9 : List UInt8 := (sliceL Option.none (Option.some (n % x5)) x2)
 let x10 : Nat := (List.length x9)
 let x11 : Int := (((Bla.BS.len (bsO (Bla.BS.h Bla.startS) x8 (((Bla.BS.n Bla.startS) : Nat) : Int) (((Bla.BS.len Bla.startS) : Nat) : Int) x9)) : Nat) : Int)
 let x12 : List UInt8 := (Bla.BS.held (bsO (Bla.BS.h Bla.startS) x8 (((Bla.BS.n Bla.startS) : Nat) : Int) (((Bla.BS.len Bla.startS) : Nat) : Int) x9))
 let x13 : Int := (((Bla.BS.n (bsO (Bla.BS.h Bla.startS) x8 (((Bla.BS.n Bla.startS) : Nat) : Int) (((Bla.BS.len Bla.startS) : Nat) : Int) x9)) : Nat) : Int)
 let x14 : List UInt8 := (sliceL (Option.some (n % x5)) (Option.some (wr IntKind.i64 ((n % x5) + (m % x7)))) x2)
 let x15 : Nat := (List.length x14)
 let x16 : Int := (((Bla.BS.len (bsO (Bla.BS.h (bsO (Bla.BS.h Bla.startS) x8 (((Bla.BS.n Bla.startS) : Nat) : Int) (((Bla.BS.len Bla.startS) : Nat) : Int) x9)) x12 x13 x11 x14)) : Nat) : Int)
 let x17 : List UInt8 := (Bla.BS.held (bsO (Bla.BS.h (bsO (Bla.BS.h Bla.startS) x8 (((Bla.BS.n Bla.startS) : Nat) : Int) (((Bla.BS.len Bla.startS) : Nat) : Int) x9)) x12 x13 x11 x14))
 let x18 : Int := (((Bla.BS.n (bsO (Bla.BS.h (bsO (Bla.BS.h Bla.startS) x8 (((Bla.BS.n Bla.startS) : Nat) : Int) (((Bla.BS.len Bla.startS) : Nat) : Int) x9)) x12 x13 x11 x14)) : Nat) : Int)
 let x19 : List UInt8 := (sliceL (Option.some (wr IntKind.i64 ((n % x5) + (m % x7)))) Option.none x2)
 let x20 : Nat := (List.length x19)
 let x21 : Int := (((Bla.BS.len (bsO (Bla.BS.h (bsO (Bla.BS.h (bsO (Bla.BS.h Bla.startS) x8 (((Bla.BS.n Bla.startS) : Nat) : Int) (((Bla.BS.len Bla.startS) : Nat) : Int) x9)) x12 x13 x11 x14)) x17 x18 x16 x19)) : Nat) : Int)
 let x22 : List UInt8 := (Bla.BS.held (bsO (Bla.BS.h (bsO (Bla.BS.h (bsO (Bla.BS.h Bla.startS) x8 (((Bla.BS.n Bla.startS) : Nat) : Int) (((Bla.BS.len Bla.startS) : Nat) : Int) x9)) x12 x13 x11 x14)) x17 x18 x16 x19))
 let x23 : Int := (((Bla.BS.n (bsO (Bla.BS.h (bsO (Bla.BS.h (bsO (Bla.BS.h Bla.startS) x8 (((Bla.BS.n Bla.startS) : Nat) : Int) (((Bla.BS.len Bla.startS) : Nat) : Int) x9)) x12 x13 x11 x14)) x17 x18 x16 x19)) : Nat) : Int)
 cnd (Bool.true && (sliceOk Option.none (Option.some (cond Bool.false (Max.max x1 300) (Min.min x1 300))) x0))
 (cnd ((Decidable.decide (0 < x5)) && (Decidable.decide (x5 ≤ x6)))
 (cnd ((Decidable.decide (0 < x7)) && (Decidable.decide (x7 ≤ x6)))
 (cnd (Bool.true && (sliceOk Option.none (Option.some (n % x5)) x3))
 (cnd (Bool.true && (sliceOk (Option.some (n % x5)) (Option.some (wr IntKind.i64 ((n % x5) + (m % x7)))) x3))
 (cnd (Bool.true && (sliceOk (Option.some (wr IntKind.i64 ((n % x5) + (m % x7)))) Option.none x3))
 (cnd ((Bla.okS x8 0 0) && (leB (0 + x10) 1073741824))
 (ite2 (cond Bool.false Bool.true (x11 != (wr IntKind.i64 (0 + ((x10 : Nat) : Int)))))
 -- THEN
 (K (AV.bool Bool.false) [])
 -- ELSE
 (cnd ((Bla.okS x12 x13 x11) && (leB ((Int.toNat x11) + x15) 1073741824))
 (ite2 (cond Bool.false Bool.true (x16 != (wr IntKind.i64 (x11 + ((x15 : Nat) : Int)))))
 -- THEN
 (K (AV.bool Bool.false) [])
 -- ELSE
 (cnd ((Bla.okS x17 x18 x16) && (leB ((Int.toNat x16) + x20) 1073741824))
 (ite2 (cond Bool.false Bool.true (x21 != (wr IntKind.i64 (x16 + ((x20 : Nat) : Int)))))
 -- THEN
 (K (AV.bool Bool.false) [])
 -- ELSE
 (cnd (Bla.okS x22 x23 x21)
 (cnd (leB x3 1073741824)
 (K (AV.bool (cond Bool.true ((Bla.endB (Bla.BS.mk (Bla.BS.h (bsO (Bla.BS.h (bsO (Bla.BS.h (bsO (Bla.BS.h Bla.startS) x8 (((Bla.BS.n Bla.startS) : Nat) : Int) (((Bla.BS.len Bla.startS) : Nat) : Int) x9)) x12 x13 x11 x14)) x17 x18 x16 x19)) x22 (Int.toNat x23) (Int.toNat x21))) == (Bla.sumS x2)) Bool.false)) []))))))))))))))) := by kernel_rfl

end Go.Proofs.YtdipeoacmapehaaDoor
