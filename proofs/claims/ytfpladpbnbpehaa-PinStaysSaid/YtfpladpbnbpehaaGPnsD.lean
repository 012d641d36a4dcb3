import Derived.Test.YtfpladpbnbpehaaPnsD
set_option linter.unusedSimpArgs false
set_option linter.unusedVariables false
namespace Go.Proofs.Ytfpladpbnbpehaa
open Go Go.V Go.Pin
set_option maxHeartbeats 0
set_option maxRecDepth 100000

theorem pFind_eq (full : Bool) (L : List Pn) (s : List UInt8) (K : AV → Heap → Prop) : walk Try.E R1 P3.C (fun _ _ => .unroll 2) 5 18 [.vecr full 34 L.length (pcs L), .str s] K = (
 let x0 : Nat := (List.length L)
 let x1 : Bool := (leB x0 1000000000) && (Pin.isPns x0 (Pin.pcs L))
 let x2 : List Pn := (Pin.pnsOf x0 (Pin.pcs L))
 let x3 : Int := (Pin.faultPS x2)
 let x4 : Int := (((posS x2 s) : Nat) : Int)
 cnd (x1)
 (ite2 (x3 != 0)
 -- THEN
 (K (AV.tup [AV.agg [AV.str [], AV.b8 32 [0, 0, 0, 0, 0, 0, 0, 0, 0, 0, 0, 0, 0, 0, 0, 0, 0, 0, 0, 0, 0, 0, 0, 0, 0, 0, 0, 0, 0, 0, 0, 0], AV.bool Bool.false], AV.int IntKind.i64 x3]) [])
 -- ELSE
 (cnd (x1 && (Pin.pinsOk x2))
 (ite2 (Bool.not (hasS x2 s))
 -- THEN
 (K (AV.tup [AV.agg [AV.str [], AV.b8 32 [0, 0, 0, 0, 0, 0, 0, 0, 0, 0, 0, 0, 0, 0, 0, 0, 0, 0, 0, 0, 0, 0, 0, 0, 0, 0, 0, 0, 0, 0, 0, 0], AV.bool Bool.false], AV.int IntKind.i64 5]) [])
 -- ELSE
 (cnd ((inB x4 x0) && Bool.true)
 (K (AV.tup [AV.agg [AV.str (Pin.Pn.name (List.getD L (Int.toNat x4) Pin.pn0)), AV.b8 32 (Pin.Pn.key (List.getD L (Int.toNat x4) Pin.pn0)), AV.bool (Pin.Pn.gone (List.getD L (Int.toNat x4) Pin.pn0))], AV.int IntKind.i64 0]) [])))))) := by kernel_rfl

theorem pTrust_eq (full : Bool) (L : List Pn) (s k : List UInt8) (K : AV → Heap → Prop) : walk Try.E R1 P3.C (fun _ _ => .unroll 2) 5 19 [.vecr full 34 L.length (pcs L), .str s, .b8 32 k] K = (
 let x0 : Nat := (List.length L)
 let x1 : Bool := (leB x0 1000000000) && (Pin.isPns x0 (Pin.pcs L))
 let x2 : List Pn := (Pin.pnsOf x0 (Pin.pcs L))
 let x3 : Int := (Pin.faultPS x2)
 let x4 : Int := (((posS x2 s) : Nat) : Int)
 let x5 : Bool := (inB x4 x0) && Bool.true
 let x6 : Nat := 140737488355328
 let x7 : Nat := ((hiN x0 (Option.some x4)) - 0)
 let x8 : Nat := (loN (Option.some x4))
 let x9 : Nat := ((x7 + 1) + ((hiN x0 Option.none) - x8))
 cnd (x1)
 (ite2 (x3 != 0)
 -- THEN
 (K (AV.tup [AV.vec8 Bool.true [], AV.int IntKind.i64 x3]) [])
 -- ELSE
 (ite2 (Bool.not (Pin.nameOk s))
 -- THEN
 (K (AV.tup [AV.vec8 Bool.true [], AV.int IntKind.i64 3]) [])
 -- ELSE
 (cnd (x1 && (Pin.pinsOk x2))
 (ite2 (hasS x2 s)
 -- THEN
 (cnd (x5)
 (ite2 (Pin.Pn.gone (List.getD L (Int.toNat x4) Pin.pn0))
 -- THEN
 (K (AV.tup [AV.vec8 Bool.true [], AV.int IntKind.i64 13]) [])
 -- ELSE
 (cnd (x5)
 (ite2 (cond Bool.true (cond Bool.false Bool.true (Bool.not ((Pin.Pn.key (List.getD L (Int.toNat x4) Pin.pn0)) == k))) Bool.false)
 -- THEN
 (K (AV.tup [AV.vec8 Bool.true [], AV.int IntKind.i64 13]) [])
 -- ELSE
 (ite2 (hasS x2 s)
 -- THEN
 (cnd (leB (x0 * 56) x6)
 (K (AV.tup [AV.slv 0 34 x0 (Pin.pcs L), AV.int IntKind.i64 0]) [Ent.tail 34 x0]))
 -- ELSE
 (ite2 (((x0 : Nat) : Int) == 8)
 -- THEN
 (K (AV.tup [AV.vec8 Bool.true [], AV.int IntKind.i64 8]) [])
 -- ELSE
 (cnd (Bool.true && (sliceOk Option.none (Option.some x4) x0))
 (cnd (leB (x7 * 56) x6)
 (cnd (x7 == x7)
 (cnd (leB ((x7 + 1) * 56) x6)
 (cnd (Bool.true && (sliceOk (Option.some x4) Option.none x0))
 (cnd ((x7 + 1) == (x7 + 1))
 (cnd (leB (x9 * 56) x6)
 (K (AV.tup [AV.slv 0 34 x9 (catF (x7 + 1) (catF x7 (fun i => Pin.pcs L ((loN Option.none) + i)) (rowF [AV.agg [AV.str s, AV.b8 32 k, AV.bool Bool.false]])) (fun i => Pin.pcs L (x8 + i))), AV.int IntKind.i64 0]) [Ent.tail 34 x9]))))))))))))))
 -- ELSE
 (ite2 (hasS x2 s)
 -- THEN
 (cnd (leB (x0 * 56) x6)
 (K (AV.tup [AV.slv 0 34 x0 (Pin.pcs L), AV.int IntKind.i64 0]) [Ent.tail 34 x0]))
 -- ELSE
 (ite2 (((x0 : Nat) : Int) == 8)
 -- THEN
 (K (AV.tup [AV.vec8 Bool.true [], AV.int IntKind.i64 8]) [])
 -- ELSE
 (cnd (Bool.true && (sliceOk Option.none (Option.some x4) x0))
 (cnd (leB (x7 * 56) x6)
 (cnd (x7 == x7)
 (cnd (leB ((x7 + 1) * 56) x6)
 (cnd (Bool.true && (sliceOk (Option.some x4) Option.none x0))
 (cnd ((x7 + 1) == (x7 + 1))
 (cnd (leB (x9 * 56) x6)
 (K (AV.tup [AV.slv 0 34 x9 (catF (x7 + 1) (catF x7 (fun i => Pin.pcs L ((loN Option.none) + i)) (rowF [AV.agg [AV.str s, AV.b8 32 k, AV.bool Bool.false]])) (fun i => Pin.pcs L (x8 + i))), AV.int IntKind.i64 0]) [Ent.tail 34 x9]))))))))))))))) := by kernel_rfl

theorem pRotate_eq (full : Bool) (L : List Pn) (s k : List UInt8) (K : AV → Heap → Prop) : walk Try.E R1 P3.C (fun _ _ => .unroll 2) 5 21 [.vecr full 34 L.length (pcs L), .str s, .b8 32 k] K = (
 let x0 : Nat := (List.length L)
 let x1 : Bool := (leB x0 1000000000) && (Pin.isPns x0 (Pin.pcs L))
 let x2 : List Pn := (Pin.pnsOf x0 (Pin.pcs L))
 let x3 : Int := (Pin.faultPS x2)
 let x4 : Int := (((posS x2 s) : Nat) : Int)
 let x5 : Nat := ((hiN x0 (Option.some x4)) - 0)
 let x6 : Nat := 140737488355328
 let x7 : Nat := (loN (Option.some (wr IntKind.i64 (x4 + 1))))
 let x8 : Nat := ((x5 + 1) + ((hiN x0 Option.none) - x7))
 cnd (x1)
 (ite2 (x3 != 0)
 -- THEN
 (K (AV.tup [AV.vec8 Bool.true [], AV.int IntKind.i64 x3]) [])
 -- ELSE
 (cnd (x1 && (Pin.pinsOk x2))
 (ite2 (Bool.not (hasS x2 s))
 -- THEN
 (K (AV.tup [AV.vec8 Bool.true [], AV.int IntKind.i64 5]) [])
 -- ELSE
 (cnd (Bool.true && (sliceOk Option.none (Option.some x4) x0))
 (cnd (leB (x5 * 56) x6)
 (cnd ((inB x4 x0) && Bool.true)
 (cnd (x5 == x5)
 (cnd (leB ((x5 + 1) * 56) x6)
 (cnd (Bool.true && (sliceOk (Option.some (wr IntKind.i64 (x4 + 1))) Option.none x0))
 (cnd ((x5 + 1) == (x5 + 1))
 (cnd (leB (x8 * 56) x6)
 (K (AV.tup [AV.slv 0 34 x8 (catF (x5 + 1) (catF x5 (fun i => Pin.pcs L ((loN Option.none) + i)) (Pin.pcs [Pin.Pn.mk (Pin.Pn.name (List.getD L (Int.toNat x4) Pin.pn0)) k Bool.false])) (fun i => Pin.pcs L (x7 + i))), AV.int IntKind.i64 0]) [Ent.tail 34 x8]))))))))))))) := by kernel_rfl

theorem pRevoke_eq (full : Bool) (L : List Pn) (s : List UInt8) (K : AV → Heap → Prop) : walk Try.E R1 P3.C (fun _ _ => .unroll 2) 5 28 [.vecr full 34 L.length (pcs L), .str s] K = (
 let x0 : Nat := (List.length L)
 let x1 : Bool := (leB x0 1000000000) && (Pin.isPns x0 (Pin.pcs L))
 let x2 : List Pn := (Pin.pnsOf x0 (Pin.pcs L))
 let x3 : Int := (Pin.faultPS x2)
 let x4 : Int := (((posS x2 s) : Nat) : Int)
 let x5 : Nat := ((hiN x0 (Option.some x4)) - 0)
 let x6 : Nat := 140737488355328
 let x7 : Nat := (loN (Option.some (wr IntKind.i64 (x4 + 1))))
 let x8 : Nat := ((x5 + 1) + ((hiN x0 Option.none) - x7))
 cnd (x1)
 (ite2 (x3 != 0)
 -- THEN
 (K (AV.tup [AV.vec8 Bool.true [], AV.int IntKind.i64 x3]) [])
 -- ELSE
 (cnd (x1 && (Pin.pinsOk x2))
 (ite2 (Bool.not (hasS x2 s))
 -- THEN
 (K (AV.tup [AV.vec8 Bool.true [], AV.int IntKind.i64 5]) [])
 -- ELSE
 (cnd (Bool.true && (sliceOk Option.none (Option.some x4) x0))
 (cnd (leB (x5 * 56) x6)
 (cnd ((inB x4 x0) && Bool.true)
 (cnd (x5 == x5)
 (cnd (leB ((x5 + 1) * 56) x6)
 (cnd (Bool.true && (sliceOk (Option.some (wr IntKind.i64 (x4 + 1))) Option.none x0))
 (cnd ((x5 + 1) == (x5 + 1))
 (cnd (leB (x8 * 56) x6)
 (K (AV.tup [AV.slv 0 34 x8 (catF (x5 + 1) (catF x5 (fun i => Pin.pcs L ((loN Option.none) + i)) (Pin.pcs [Pin.Pn.mk (Pin.Pn.name (List.getD L (Int.toNat x4) Pin.pn0)) (Pin.Pn.key (List.getD L (Int.toNat x4) Pin.pn0)) Bool.true])) (fun i => Pin.pcs L (x7 + i))), AV.int IntKind.i64 0]) [Ent.tail 34 x8]))))))))))))) := by kernel_rfl

theorem pForget_eq (full : Bool) (L : List Pn) (s : List UInt8) (K : AV → Heap → Prop) : walk Try.E R1 P3.C (fun _ _ => .unroll 2) 5 25 [.vecr full 34 L.length (pcs L), .str s] K = (
 let x0 : Nat := (List.length L)
 let x1 : Bool := (leB x0 1000000000) && (Pin.isPns x0 (Pin.pcs L))
 let x2 : List Pn := (Pin.pnsOf x0 (Pin.pcs L))
 let x3 : Int := (Pin.faultPS x2)
 let x4 : Int := (((posS x2 s) : Nat) : Int)
 let x5 : Nat := ((hiN x0 (Option.some x4)) - 0)
 let x6 : Nat := 140737488355328
 let x7 : Nat := (loN (Option.some (wr IntKind.i64 (x4 + 1))))
 let x8 : Nat := ((x5 + 0) + ((hiN x0 Option.none) - x7))
 cnd (x1)
 (ite2 (x3 != 0)
 -- THEN
 (K (AV.tup [AV.vec8 Bool.true [], AV.int IntKind.i64 x3]) [])
 -- ELSE
 (cnd (x1 && (Pin.pinsOk x2))
 (ite2 (Bool.not (hasS x2 s))
 -- THEN
 (K (AV.tup [AV.vec8 Bool.true [], AV.int IntKind.i64 5]) [])
 -- ELSE
 (cnd (Bool.true && (sliceOk Option.none (Option.some x4) x0))
 (cnd (leB (x5 * 56) x6)
 (cnd ((inB x4 x0) && Bool.true)
 (cnd (x5 == x5)
 (cnd (leB ((x5 + 0) * 56) x6)
 (cnd (Bool.true && (sliceOk (Option.some (wr IntKind.i64 (x4 + 1))) Option.none x0))
 (cnd ((x5 + 0) == (x5 + 0))
 (cnd (leB (x8 * 56) x6)
 (K (AV.tup [AV.slv 0 34 x8 (catF (x5 + 0) (catF x5 (fun i => Pin.pcs L ((loN Option.none) + i)) (Pin.pcs [])) (fun i => Pin.pcs L (x7 + i))), AV.int IntKind.i64 0]) [Ent.tail 34 x8]))))))))))))) := by kernel_rfl

end Go.Proofs.Ytfpladpbnbpehaa
