import Derived.Test.YtdipeoacmapehaaSeaA
set_option linter.unusedSimpArgs false
set_option linter.unusedVariables false
namespace Go.Proofs.Ytdipeoacmapehaa
open Go Go.V Go.Fld Go.Pol Go.Cha
set_option maxHeartbeats 0
set_option maxRecDepth 100000

theorem sealtag_eq (k n a b : List UInt8) (fa fb : Bool) (K : AV → Heap → Prop) : walk Try.E RS S1.C (fun _ _ => .unroll 17) 5 18 [.b8 32 k, .b8 12 n, .vec8 fa a, .vec8 fb b] K = (
 let x0 : Nat := (List.length a)
 let x1 : Nat := (List.length b)
 let x2 : Bool := leB x1 1000000
 let x3 : Bool := List.isEmpty a
 let x4 : Nat := 140737488355328
 let x5 : List UInt8 := (eightS ((x0 : Nat) : Int))
 let x6 : Bool := Bool.true && (leB 8 (List.length x5))
 let x7 : List UInt8 := (List.take 8 (List.drop 0 x5))
 let x8 : Nat := (List.length x7)
 let x9 : List UInt8 := (eightS ((x1 : Nat) : Int))
 let x10 : Bool := Bool.true && (leB 8 (List.length x9))
 let x11 : List UInt8 := (List.take 8 (List.drop 0 x9))
 let x12 : Nat := (List.length x11)
 let x13 : Nat := ((x1 + x8) + x12)
 let x14 : List UInt8 := ((b ++ x7) ++ x11)
 let x15 : List UInt8 := (List.take x13 (List.drop 0 x14))
 let x16 : Nat := 4611686018427387904
 let x17 : List UInt8 := (Cha.blockS k 0 n)
 let x18 : List UInt8 := ((List.take 32 x17) ++ (List.drop (Min.min (List.length x17) 32) [0, 0, 0, 0, 0, 0, 0, 0, 0, 0, 0, 0, 0, 0, 0, 0, 0, 0, 0, 0, 0, 0, 0, 0, 0, 0, 0, 0, 0, 0, 0, 0]))
 let x19 : List UInt8 := (List.take (x8 + x12) (List.drop 0 (x7 ++ x11)))
 let x20 : List UInt8 := (List.take x12 (List.drop 0 x11))
 let x21 : List UInt8 := (List.take (x0 + x12) (List.drop 0 (a ++ x11)))
 let x22 : Nat := ((x0 + x8) + x12)
 let x23 : List UInt8 := ((a ++ x7) ++ x11)
 let x24 : List UInt8 := (List.take x22 (List.drop 0 x23))
 let x25 : Nat := ((x0 + x1) + x8)
 let x26 : List UInt8 := ((a ++ b) ++ x7)
 let x27 : List UInt8 := (List.take (x25 + x12) (List.drop 0 (x26 ++ x11)))
 let x28 : Nat := (List.length (padS b))
 let x29 : Bool := Bool.true && (leB (0 + x28) x28)
 let x30 : List UInt8 := (List.take x28 (List.drop 0 (padS b)))
 let x31 : Nat := (List.length x30)
 let x32 : Nat := ((x31 + x8) + x12)
 let x33 : List UInt8 := ((x30 ++ x7) ++ x11)
 let x34 : List UInt8 := (List.take x32 (List.drop 0 x33))
 let x35 : Nat := ((x0 + x31) + x8)
 let x36 : List UInt8 := ((a ++ x30) ++ x7)
 let x37 : List UInt8 := (List.take (x35 + x12) (List.drop 0 (x36 ++ x11)))
 let x38 : Nat := (List.length (padS a))
 let x39 : List UInt8 := ((padS a) ++ b)
 let x40 : Nat := ((x38 + x1) + x8)
 let x41 : List UInt8 := ((x39 ++ x7) ++ x11)
 let x42 : List UInt8 := (List.take (x40 + x12) (List.drop 0 x41))
 let x43 : List UInt8 := ((padS a) ++ x30)
 let x44 : Nat := ((x38 + x31) + x8)
 let x45 : List UInt8 := ((x43 ++ x7) ++ x11)
 let x46 : List UInt8 := (List.take (x44 + x12) (List.drop 0 x45))
 cnd (leB x0 1000000)
 (ite2 (fullS a)
 -- THEN
 (cnd (x2)
 (ite2 (fullS b)
 -- THEN
 (ite2 (x3)
 -- THEN
 (cnd (leB (x1 * 1) x4)
 (cnd (x6)
 (cnd (x1 == x1)
 (cnd (leB ((x1 + x8) * 1) x4)
 (cnd (x10)
 (cnd ((x1 + x8) == (List.length (b ++ x7)))
 (cnd (leB (x13 * 1) x4)
 (cnd (Bool.true && ((Bool.true && (leB (0 + x13) (List.length x14))) && Bool.true))
 (cnd (ltB (List.length x15) x16)
 (K (AV.b8 16 (tagS x18 x15)) []))))))))))
 -- ELSE
 (ite2 (List.isEmpty b)
 -- THEN
 (cnd (x6)
 (ite2 (x3)
 -- THEN
 (cnd (leB (x8 * 1) x4)
 (cnd (x10)
 (cnd (x8 == x8)
 (cnd (leB ((x8 + x12) * 1) x4)
 (cnd (Bool.true && ((Bool.true && (leB (0 + (x8 + x12)) (List.length (x7 ++ x11)))) && Bool.true))
 (cnd (ltB (List.length x19) x16)
 (K (AV.b8 16 (tagS x18 x19)) [])))))))
 -- ELSE
 (ite2 (List.isEmpty x7)
 -- THEN
 (cnd (x10)
 (ite2 (x3)
 -- THEN
 (cnd (leB (x12 * 1) x4)
 (cnd (Bool.true && ((Bool.true && (leB (0 + x12) x12)) && Bool.true))
 (cnd (ltB (List.length x20) x16)
 (K (AV.b8 16 (tagS x18 x20)) []))))
 -- ELSE
 (ite2 (List.isEmpty x11)
 -- THEN
 (cnd (ltB x0 x16)
 (K (AV.b8 16 (tagS x18 a)) []))
 -- ELSE
 (cnd (leB ((x0 + x12) * 1) x4)
 (cnd (Bool.true && ((Bool.true && (leB (0 + (x0 + x12)) (List.length (a ++ x11)))) && Bool.true))
 (cnd (ltB (List.length x21) x16)
 (K (AV.b8 16 (tagS x18 x21)) [])))))))
 -- ELSE
 (cnd (leB ((x0 + x8) * 1) x4)
 (cnd (x10)
 (cnd ((x0 + x8) == (List.length (a ++ x7)))
 (cnd (leB (x22 * 1) x4)
 (cnd (Bool.true && ((Bool.true && (leB (0 + x22) (List.length x23))) && Bool.true))
 (cnd (ltB (List.length x24) x16)
 (K (AV.b8 16 (tagS x18 x24)) []))))))))))
 -- ELSE
 (cnd (leB ((x0 + x1) * 1) x4)
 (cnd (x6)
 (cnd ((x0 + x1) == (List.length (a ++ b)))
 (cnd (leB (x25 * 1) x4)
 (cnd (x10)
 (cnd (x25 == (List.length x26))
 (cnd (leB ((x25 + x12) * 1) x4)
 (cnd (Bool.true && ((Bool.true && (leB (0 + (x25 + x12)) (List.length (x26 ++ x11)))) && Bool.true))
 (cnd (ltB (List.length x27) x16)
 (K (AV.b8 16 (tagS x18 x27)) []))))))))))))
 -- ELSE
 (cnd (x29)
 (ite2 (x3)
 -- THEN
 (cnd (leB (x31 * 1) x4)
 (cnd (x6)
 (cnd (x31 == x31)
 (cnd (leB ((x31 + x8) * 1) x4)
 (cnd (x10)
 (cnd ((x31 + x8) == (List.length (x30 ++ x7)))
 (cnd (leB (x32 * 1) x4)
 (cnd (Bool.true && ((Bool.true && (leB (0 + x32) (List.length x33))) && Bool.true))
 (cnd (ltB (List.length x34) x16)
 (K (AV.b8 16 (tagS x18 x34)) []))))))))))
 -- ELSE
 (ite2 (List.isEmpty x30)
 -- THEN
 (cnd (x6)
 (ite2 (x3)
 -- THEN
 (cnd (leB (x8 * 1) x4)
 (cnd (x10)
 (cnd (x8 == x8)
 (cnd (leB ((x8 + x12) * 1) x4)
 (cnd (Bool.true && ((Bool.true && (leB (0 + (x8 + x12)) (List.length (x7 ++ x11)))) && Bool.true))
 (cnd (ltB (List.length x19) x16)
 (K (AV.b8 16 (tagS x18 x19)) [])))))))
 -- ELSE
 (ite2 (List.isEmpty x7)
 -- THEN
 (cnd (x10)
 (ite2 (x3)
 -- THEN
 (cnd (leB (x12 * 1) x4)
 (cnd (Bool.true && ((Bool.true && (leB (0 + x12) x12)) && Bool.true))
 (cnd (ltB (List.length x20) x16)
 (K (AV.b8 16 (tagS x18 x20)) []))))
 -- ELSE
 (ite2 (List.isEmpty x11)
 -- THEN
 (cnd (ltB x0 x16)
 (K (AV.b8 16 (tagS x18 a)) []))
 -- ELSE
 (cnd (leB ((x0 + x12) * 1) x4)
 (cnd (Bool.true && ((Bool.true && (leB (0 + (x0 + x12)) (List.length (a ++ x11)))) && Bool.true))
 (cnd (ltB (List.length x21) x16)
 (K (AV.b8 16 (tagS x18 x21)) [])))))))
 -- ELSE
 (cnd (leB ((x0 + x8) * 1) x4)
 (cnd (x10)
 (cnd ((x0 + x8) == (List.length (a ++ x7)))
 (cnd (leB (x22 * 1) x4)
 (cnd (Bool.true && ((Bool.true && (leB (0 + x22) (List.length x23))) && Bool.true))
 (cnd (ltB (List.length x24) x16)
 (K (AV.b8 16 (tagS x18 x24)) []))))))))))
 -- ELSE
 (cnd (leB ((x0 + x31) * 1) x4)
 (cnd (x6)
 (cnd ((x0 + x31) == (List.length (a ++ x30)))
 (cnd (leB (x35 * 1) x4)
 (cnd (x10)
 (cnd (x35 == (List.length x36))
 (cnd (leB ((x35 + x12) * 1) x4)
 (cnd (Bool.true && ((Bool.true && (leB (0 + (x35 + x12)) (List.length (x36 ++ x11)))) && Bool.true))
 (cnd (ltB (List.length x37) x16)
 (K (AV.b8 16 (tagS x18 x37)) [])))))))))))))))
 -- ELSE
 (cnd (x2)
 (ite2 (fullS b)
 -- THEN
 (cnd (x38 == x38)
 (cnd (leB ((x38 + x1) * 1) x4)
 (cnd (x6)
 (cnd ((x38 + x1) == (List.length x39))
 (cnd (leB (x40 * 1) x4)
 (cnd (x10)
 (cnd (x40 == (List.length (x39 ++ x7)))
 (cnd (leB ((x40 + x12) * 1) x4)
 (cnd (Bool.true && ((Bool.true && (leB (0 + (x40 + x12)) (List.length x41))) && Bool.true))
 (cnd (ltB (List.length x42) x16)
 (K (AV.b8 16 (tagS x18 x42)) [])))))))))))
 -- ELSE
 (cnd (x29)
 (cnd (x38 == x38)
 (cnd (leB ((x38 + x31) * 1) x4)
 (cnd (x6)
 (cnd ((x38 + x31) == (List.length x43))
 (cnd (leB (x44 * 1) x4)
 (cnd (x10)
 (cnd (x44 == (List.length (x43 ++ x7)))
 (cnd (leB ((x44 + x12) * 1) x4)
 (cnd (Bool.true && ((Bool.true && (leB (0 + (x44 + x12)) (List.length x45))) && Bool.true))
 (cnd (ltB (List.length x46) x16)
 (K (AV.b8 16 (tagS x18 x46)) [])))))))))))))))) := by kernel_rfl

end Go.Proofs.Ytdipeoacmapehaa
