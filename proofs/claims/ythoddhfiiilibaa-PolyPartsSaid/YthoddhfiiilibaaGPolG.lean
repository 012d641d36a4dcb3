import Derived.Test.YthoddhfiiilibaaPly
set_option linter.unusedSimpArgs false
set_option linter.unusedVariables false
namespace Go.Proofs.Ythoddhfiiilibaa
open Go Go.V Go.Fld Go.Pol
set_option maxHeartbeats 0
set_option maxRecDepth 100000

theorem polyParts_eq (k b : List UInt8) (n m : Int) (K : AV → Heap → Prop) : walk Try.E RS P5.C (fun _ _ => .unroll 17) 5 6 [.b8 32 k, .vec8 false b, .int .i64 n, .int .i64 m] K = (
 let x0 : Nat := (List.length b)
 let x1 : Int := ((x0 : Nat) : Int)
 let x2 : List UInt8 := (sliceL Option.none (Option.some (cond Bool.false (Max.max x1 200) (Min.min x1 200))) b)
 let x3 : Nat := (List.length x2)
 let x4 : Int := ((x3 : Nat) : Int)
 let x5 : Int := (wr IntKind.i64 (x4 + 1))
 let x6 : Int := 9223372036854775807
 let x7 : Int := (wr IntKind.i64 ((wr IntKind.i64 (subI x4 (n % x5))) + 1))
 let x8 : List UInt8 := (sliceL Option.none (Option.some (n % x5)) x2)
 let x9 : Nat := (List.length x8)
 let x10 : Nat := 4611686018427387904
 let x11 : Nat := (Pol.v2 (rOf k))
 let x12 : Int := (((Pol.PS.n (addS x11 (Pol.PS.mk (Pol.v3 (Pol.w3 0)) Pol.zeros (Int.toNat 0)) x8)) : Nat) : Int)
 let x13 : List UInt64 := (Pol.w3 (Pol.PS.a (addS x11 (Pol.PS.mk (Pol.v3 (Pol.w3 0)) Pol.zeros (Int.toNat 0)) x8)))
 let x14 : List UInt8 := (Pol.PS.h (addS x11 (Pol.PS.mk (Pol.v3 (Pol.w3 0)) Pol.zeros (Int.toNat 0)) x8))
 let x15 : Bool := (Pol.okS (rOf k) x13 x14 x12)
 let x16 : List UInt8 := (sliceL (Option.some (n % x5)) (Option.some (wr IntKind.i64 ((n % x5) + (m % x7)))) x2)
 let x17 : Nat := (List.length x16)
 let x18 : Int := (((Pol.PS.n (addS x11 (Pol.PS.mk (Pol.v3 x13) x14 (Int.toNat x12)) x16)) : Nat) : Int)
 let x19 : List UInt64 := (Pol.w3 (Pol.PS.a (addS x11 (Pol.PS.mk (Pol.v3 x13) x14 (Int.toNat x12)) x16)))
 let x20 : List UInt8 := (Pol.PS.h (addS x11 (Pol.PS.mk (Pol.v3 x13) x14 (Int.toNat x12)) x16))
 let x21 : Bool := (Pol.okS (rOf k) x19 x20 x18)
 let x22 : List UInt8 := (sliceL (Option.some (wr IntKind.i64 ((n % x5) + (m % x7)))) Option.none x2)
 let x23 : Nat := (List.length x22)
 let x24 : Int := (((Pol.PS.n (addS x11 (Pol.PS.mk (Pol.v3 x19) x20 (Int.toNat x18)) x22)) : Nat) : Int)
 let x25 : List UInt64 := (Pol.w3 (Pol.PS.a (addS x11 (Pol.PS.mk (Pol.v3 x19) x20 (Int.toNat x18)) x22)))
 let x26 : List UInt8 := (Pol.PS.h (addS x11 (Pol.PS.mk (Pol.v3 x19) x20 (Int.toNat x18)) x22))
 let x27 : Bool := (Pol.okS (rOf k) x25 x26 x24)
 let x28 : List UInt8 := (List.drop 16 k)
 cnd (Bool.true && (sliceOk Option.none (Option.some (cond Bool.false (Max.max x1 200) (Min.min x1 200))) x0))
 (cnd ((Decidable.decide (0 < x5)) && (Decidable.decide (x5 ≤ x6)))
 (cnd ((Decidable.decide (0 < x7)) && (Decidable.decide (x7 ≤ x6)))
 (cnd (Bool.true && (sliceOk Option.none (Option.some (n % x5)) x3))
 (cnd (Bool.true && (sliceOk (Option.some (n % x5)) (Option.some (wr IntKind.i64 ((n % x5) + (m % x7)))) x3))
 (cnd (Bool.true && (sliceOk (Option.some (wr IntKind.i64 ((n % x5) + (m % x7)))) Option.none x3))
 (cnd ((Pol.okS (rOf k) (Pol.w3 0) Pol.zeros 0) && (ltB x9 x10))
 (cnd ((x12 == 16) || x15)
 (ite2 (x12 == 16)
 -- THEN
 (K (AV.bool Bool.false) [])
 -- ELSE
 (ite2 (cond Bool.false Bool.true (x12 != (Int.tmod (wr IntKind.i64 (0 + ((x9 : Nat) : Int))) 16)))
 -- THEN
 (K (AV.bool Bool.false) [])
 -- ELSE
 (cnd (x15 && (ltB x17 x10))
 (cnd ((x18 == 16) || x21)
 (ite2 (x18 == 16)
 -- THEN
 (K (AV.bool Bool.false) [])
 -- ELSE
 (ite2 (cond Bool.false Bool.true (x18 != (Int.tmod (wr IntKind.i64 (x12 + ((x17 : Nat) : Int))) 16)))
 -- THEN
 (K (AV.bool Bool.false) [])
 -- ELSE
 (cnd (x21 && (ltB x23 x10))
 (cnd ((x24 == 16) || x27)
 (ite2 (x24 == 16)
 -- THEN
 (K (AV.bool Bool.false) [])
 -- ELSE
 (ite2 (cond Bool.false Bool.true (x24 != (Int.tmod (wr IntKind.i64 (x18 + ((x23 : Nat) : Int))) 16)))
 -- THEN
 (K (AV.bool Bool.false) [])
 -- ELSE
 (cnd (x27)
 (cnd (ltB x3 x10)
 (cnd (ltB x3 x10)
 (ite2 (cond Bool.true ((endS (lastP x11 (Pol.PS.mk (Pol.v3 x25) x26 (Int.toNat x24))) (padOf k)) == (tagS k x2)) Bool.false)
 -- THEN
 (ite2 (cond Bool.true ((tagS ((List.take 0 k) ++ (((List.take 16 (List.take 16 (List.drop 0 (List.replicate 16 0)))) ++ (List.drop 16 (List.take 16 k))) ++ x28)) x2) == x28) Bool.false)
 -- THEN
 (K (AV.bool Bool.true) [])
 -- ELSE
 (K (AV.bool Bool.false) []))
 -- ELSE
 (K (AV.bool Bool.false) []))))))))))))))))))))))) := by kernel_rfl

end Go.Proofs.Ythoddhfiiilibaa
