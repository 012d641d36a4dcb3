import Derived.Test.YtfpladpbnbpehaaFrmF
set_option linter.unusedSimpArgs false
set_option linter.unusedVariables false
namespace Go.Proofs.Ytfpladpbnbpehaa
open Go Go.V Go.Frm
set_option maxHeartbeats 0
set_option maxRecDepth 100000

theorem fback_eq (l : List Raw3) (n : Int) (K : AV → Heap → Prop) : walk Try.E R0 F3.C (fun f _ => bif f == 3 then backL (fsOf l) else .unroll 2) 5 3 [.vecr false 4 l.length (rawsF l), .int .i64 n] K = (
 let x0 : Nat := (List.length l)
 let x1 : Nat := (Min.min x0 8)
 let x2 : Int := ((x1 : Nat) : Int)
 let x3 : List Fr := (Frm.fsOf (Frm.rawsOf x0 (rawsF l)))
 let x4 : Nat := 140737488355328
 let x5 : Int := 9223372036854775807
 let x6 : Nat := (loN Option.none)
 let x7 : List UInt8 := (List.take 1 (List.drop 0 [97]))
 let x8 : List Fr := Frm.frsOf x1 (Frm.frs x3)
 cnd (Frm.isRaws x0 (rawsF l))
 ((∃ w0 : Nat, (Inv.upTo [AV.int IntKind.i64 x2] w0) ∧ ((x0 = x0) ∧ ((∀ w1 : Nat, (w1 < x0 → leR [AV.int IntKind.i64 (Raw3.kind (List.getD l w1 raw0)), AV.int IntKind.i64 (Raw3.a (List.getD l w1 raw0)), AV.int IntKind.i64 (Raw3.b (List.getD l w1 raw0)), AV.str (Raw3.text (List.getD l w1 raw0))] [AV.int IntKind.i64 (Raw3.kind (List.getD l w1 raw0)), AV.int IntKind.i64 (Raw3.a (List.getD l w1 raw0)), AV.int IntKind.i64 (Raw3.b (List.getD l w1 raw0)), AV.str (Raw3.text (List.getD l w1 raw0))])) ∧ ((AV.int IntKind.i64 n = AV.int IntKind.i64 n) ∧ ((x1 = x1) ∧ ((∀ w2 : Nat, (w2 < x1 → leR [AV.int IntKind.i64 (Frm.Fr.kind (List.getD x3 w2 Frm.fr0)), AV.int IntKind.i64 (Frm.Fr.id (List.getD x3 w2 Frm.fr0)), AV.vec8 Bool.false (Frm.Fr.body (List.getD x3 w2 Frm.fr0))] [AV.int IntKind.i64 (Frm.Fr.kind (List.getD x3 w2 Frm.fr0)), AV.int IntKind.i64 (Frm.Fr.id (List.getD x3 w2 Frm.fr0)), AV.vec8 Bool.false (Frm.Fr.body (List.getD x3 w2 Frm.fr0))])) ∧ ((0 = List.length (Frm.encs (Frm.fsOf l) w0)) ∧ ((x1 = x1) ∧ ((∀ w3 : Nat, (w3 < x1 → leR [AV.int IntKind.i64 (Frm.Fr.kind (List.getD x3 w3 Frm.fr0)), AV.int IntKind.i64 (Frm.Fr.id (List.getD x3 w3 Frm.fr0)), AV.vec8 Bool.false (Frm.Fr.body (List.getD x3 w3 Frm.fr0))] [AV.int IntKind.i64 (Frm.Fr.kind (List.getD x3 w3 Frm.fr0)), AV.int IntKind.i64 (Frm.Fr.id (List.getD x3 w3 Frm.fr0)), AV.vec8 Bool.false (Frm.Fr.body (List.getD x3 w3 Frm.fr0))])) ∧ ((AV.int IntKind.i64 x2 = AV.int IntKind.i64 x2) ∧ ((AV.int IntKind.i64 0 = AV.int IntKind.i64 ((w0 : Nat) : Int)) ∧ cnd (nilE (Ent.grow8 (Frm.encs (Frm.fsOf l) w0) []))
 (True)))))))))))) ∧ (∀ w4 : Nat, (Inv.upTo [AV.int IntKind.i64 x2] w4 → ite2 (ltI ((w4 : Nat) : Int) x2)
 -- THEN
 (cnd ((inB ((w4 : Nat) : Int) x1) && Bool.true)
 (ite2 ((Frm.faultS (Frm.Fr.kind (List.getD x3 (Int.toNat ((w4 : Nat) : Int)) Frm.fr0)) (Frm.Fr.id (List.getD x3 (Int.toNat ((w4 : Nat) : Int)) Frm.fr0)) (Frm.Fr.body (List.getD x3 (Int.toNat ((w4 : Nat) : Int)) Frm.fr0))) != 0)
 -- THEN
 (K (AV.bool Bool.false) [])
 -- ELSE
 (ite2 (cond Bool.false Bool.true ((Frm.faultS (Frm.Fr.kind (List.getD x3 (Int.toNat ((w4 : Nat) : Int)) Frm.fr0)) (Frm.Fr.id (List.getD x3 (Int.toNat ((w4 : Nat) : Int)) Frm.fr0)) (Frm.Fr.body (List.getD x3 (Int.toNat ((w4 : Nat) : Int)) Frm.fr0))) != 0))
 -- THEN
 (K (AV.bool Bool.false) [])
 -- ELSE
 (cnd ((List.length (Frm.encs (Frm.fsOf l) w4)) == (List.length (Frm.encs (Frm.fsOf l) w4)))
 (cnd (leB (((List.length (Frm.encs (Frm.fsOf l) w4)) + (List.length (Frm.encS (Frm.Fr.kind (List.getD x3 (Int.toNat ((w4 : Nat) : Int)) Frm.fr0)) (Frm.Fr.id (List.getD x3 (Int.toNat ((w4 : Nat) : Int)) Frm.fr0)) (Frm.Fr.body (List.getD x3 (Int.toNat ((w4 : Nat) : Int)) Frm.fr0))))) * 1) x4)
 ((∃ w5 : Nat, (((Inv.up w5) < (Inv.up w4)) ∧ (Inv.upTo [AV.int IntKind.i64 x2] w5)) ∧ ((x0 = x0) ∧ ((∀ w6 : Nat, (w6 < x0 → leR [AV.int IntKind.i64 (Raw3.kind (List.getD l w6 raw0)), AV.int IntKind.i64 (Raw3.a (List.getD l w6 raw0)), AV.int IntKind.i64 (Raw3.b (List.getD l w6 raw0)), AV.str (Raw3.text (List.getD l w6 raw0))] [AV.int IntKind.i64 (Raw3.kind (List.getD l w6 raw0)), AV.int IntKind.i64 (Raw3.a (List.getD l w6 raw0)), AV.int IntKind.i64 (Raw3.b (List.getD l w6 raw0)), AV.str (Raw3.text (List.getD l w6 raw0))])) ∧ ((AV.int IntKind.i64 n = AV.int IntKind.i64 n) ∧ ((x1 = x1) ∧ ((∀ w7 : Nat, (w7 < x1 → leR [AV.int IntKind.i64 (Frm.Fr.kind (List.getD x3 w7 Frm.fr0)), AV.int IntKind.i64 (Frm.Fr.id (List.getD x3 w7 Frm.fr0)), AV.vec8 Bool.false (Frm.Fr.body (List.getD x3 w7 Frm.fr0))] [AV.int IntKind.i64 (Frm.Fr.kind (List.getD x3 w7 Frm.fr0)), AV.int IntKind.i64 (Frm.Fr.id (List.getD x3 w7 Frm.fr0)), AV.vec8 Bool.false (Frm.Fr.body (List.getD x3 w7 Frm.fr0))])) ∧ (((List.length (Frm.encs (Frm.fsOf l) w4)) + (List.length (Frm.encS (Frm.Fr.kind (List.getD x3 (Int.toNat ((w4 : Nat) : Int)) Frm.fr0)) (Frm.Fr.id (List.getD x3 (Int.toNat ((w4 : Nat) : Int)) Frm.fr0)) (Frm.Fr.body (List.getD x3 (Int.toNat ((w4 : Nat) : Int)) Frm.fr0)))) = List.length (Frm.encs (Frm.fsOf l) w5)) ∧ ((x1 = x1) ∧ ((∀ w8 : Nat, (w8 < x1 → leR [AV.int IntKind.i64 (Frm.Fr.kind (List.getD x3 w8 Frm.fr0)), AV.int IntKind.i64 (Frm.Fr.id (List.getD x3 w8 Frm.fr0)), AV.vec8 Bool.false (Frm.Fr.body (List.getD x3 w8 Frm.fr0))] [AV.int IntKind.i64 (Frm.Fr.kind (List.getD x3 w8 Frm.fr0)), AV.int IntKind.i64 (Frm.Fr.id (List.getD x3 w8 Frm.fr0)), AV.vec8 Bool.false (Frm.Fr.body (List.getD x3 w8 Frm.fr0))])) ∧ ((AV.int IntKind.i64 x2 = AV.int IntKind.i64 x2) ∧ ((AV.int IntKind.i64 (wr IntKind.i64 (((w4 : Nat) : Int) + 1)) = AV.int IntKind.i64 ((w5 : Nat) : Int)) ∧ (((Frm.encs (Frm.fsOf l) w4) ++ (Frm.encS (Frm.Fr.kind (List.getD x3 (Int.toNat ((w4 : Nat) : Int)) Frm.fr0)) (Frm.Fr.id (List.getD x3 (Int.toNat ((w4 : Nat) : Int)) Frm.fr0)) (Frm.Fr.body (List.getD x3 (Int.toNat ((w4 : Nat) : Int)) Frm.fr0))) = Frm.encs (Frm.fsOf l) w5) ∧ True))))))))))))))))))
 -- ELSE
 (cnd ((Decidable.decide (0 < (wr IntKind.i64 ((((List.length (Frm.encs (Frm.fsOf l) w4)) : Nat) : Int) + 1)))) && (Decidable.decide ((wr IntKind.i64 ((((List.length (Frm.encs (Frm.fsOf l) w4)) : Nat) : Int) + 1)) ≤ x5)))
 (cnd (Bool.true && (sliceOk Option.none (Option.some (n % (wr IntKind.i64 ((((List.length (Frm.encs (Frm.fsOf l) w4)) : Nat) : Int) + 1)))) (List.length (Frm.encs (Frm.fsOf l) w4))))
 (cnd (Bool.true && ((Bool.true && (Bool.true && (leB (0 + ((hiN (List.length (Frm.encs (Frm.fsOf l) w4)) (Option.some (n % (wr IntKind.i64 ((((List.length (Frm.encs (Frm.fsOf l) w4)) : Nat) : Int) + 1))))) - 0)) (List.length (Frm.encs (Frm.fsOf l) w4))))) && Bool.true))
 (cnd (leB (0 + (List.length (List.take ((hiN (List.length (Frm.encs (Frm.fsOf l) w4)) (Option.some (n % (wr IntKind.i64 ((((List.length (Frm.encs (Frm.fsOf l) w4)) : Nat) : Int) + 1))))) - 0) (List.drop 0 (Frm.encs (Frm.fsOf l) w4))))) 1000000000)
 (cnd (Bool.true && (sliceOk (Option.some (n % (wr IntKind.i64 ((((List.length (Frm.encs (Frm.fsOf l) w4)) : Nat) : Int) + 1)))) Option.none (List.length (Frm.encs (Frm.fsOf l) w4))))
 (cnd (Bool.true && (((frzFree [(0, 0 + ((hiN (List.length (Frm.encs (Frm.fsOf l) w4)) (Option.some (n % (wr IntKind.i64 ((((List.length (Frm.encs (Frm.fsOf l) w4)) : Nat) : Int) + 1))))) - 0))] (0 + ((loN (Option.some (n % (wr IntKind.i64 ((((List.length (Frm.encs (Frm.fsOf l) w4)) : Nat) : Int) + 1))))) * 1)) ((hiN (List.length (Frm.encs (Frm.fsOf l) w4)) Option.none) - (loN (Option.some (n % (wr IntKind.i64 ((((List.length (Frm.encs (Frm.fsOf l) w4)) : Nat) : Int) + 1))))))) && (Bool.true && (leB ((0 + ((loN (Option.some (n % (wr IntKind.i64 ((((List.length (Frm.encs (Frm.fsOf l) w4)) : Nat) : Int) + 1))))) * 1)) + ((hiN (List.length (Frm.encs (Frm.fsOf l) w4)) Option.none) - (loN (Option.some (n % (wr IntKind.i64 ((((List.length (Frm.encs (Frm.fsOf l) w4)) : Nat) : Int) + 1))))))) (List.length (Frm.encs (Frm.fsOf l) w4))))) && Bool.true))
 (cnd (leB ((List.length (Frm.Fed.rest (Frm.feedS [] (List.take ((hiN (List.length (Frm.encs (Frm.fsOf l) w4)) (Option.some (n % (wr IntKind.i64 ((((List.length (Frm.encs (Frm.fsOf l) w4)) : Nat) : Int) + 1))))) - x6) (List.drop (0 + (x6 * 1)) (Frm.encs (Frm.fsOf l) w4)))))) + (List.length (List.take ((hiN (List.length (Frm.encs (Frm.fsOf l) w4)) Option.none) - (loN (Option.some (n % (wr IntKind.i64 ((((List.length (Frm.encs (Frm.fsOf l) w4)) : Nat) : Int) + 1)))))) (List.drop (0 + ((loN (Option.some (n % (wr IntKind.i64 ((((List.length (Frm.encs (Frm.fsOf l) w4)) : Nat) : Int) + 1))))) * 1)) (Frm.encs (Frm.fsOf l) w4))))) 1000000000)
 (ite2 ((Frm.faultS 1 0 x7) == 0)
 -- THEN
 (ite2 (cond Bool.true ((((List.length (Frm.encS 1 0 x7)) : Nat) : Int) == 5) Bool.false)
 -- THEN
 (ite2 (cond Bool.true ((Frm.Fed.e (Frm.feedS [] (List.take ((hiN (List.length (Frm.encs (Frm.fsOf l) w4)) (Option.some (n % (wr IntKind.i64 ((((List.length (Frm.encs (Frm.fsOf l) w4)) : Nat) : Int) + 1))))) - x6) (List.drop (0 + (x6 * 1)) (Frm.encs (Frm.fsOf l) w4))))) == 0) Bool.false)
 -- THEN
 (ite2 (cond Bool.true ((Frm.Fed.e (Frm.feedS (Frm.Fed.rest (Frm.feedS [] (List.take ((hiN (List.length (Frm.encs (Frm.fsOf l) w4)) (Option.some (n % (wr IntKind.i64 ((((List.length (Frm.encs (Frm.fsOf l) w4)) : Nat) : Int) + 1))))) - x6) (List.drop (0 + (x6 * 1)) (Frm.encs (Frm.fsOf l) w4))))) (List.take ((hiN (List.length (Frm.encs (Frm.fsOf l) w4)) Option.none) - (loN (Option.some (n % (wr IntKind.i64 ((((List.length (Frm.encs (Frm.fsOf l) w4)) : Nat) : Int) + 1)))))) (List.drop (0 + ((loN (Option.some (n % (wr IntKind.i64 ((((List.length (Frm.encs (Frm.fsOf l) w4)) : Nat) : Int) + 1))))) * 1)) (Frm.encs (Frm.fsOf l) w4))))) == 0) Bool.false)
 -- THEN
 (ite2 (cond Bool.true ((((List.length (Frm.Fed.rest (Frm.feedS (Frm.Fed.rest (Frm.feedS [] (List.take ((hiN (List.length (Frm.encs (Frm.fsOf l) w4)) (Option.some (n % (wr IntKind.i64 ((((List.length (Frm.encs (Frm.fsOf l) w4)) : Nat) : Int) + 1))))) - x6) (List.drop (0 + (x6 * 1)) (Frm.encs (Frm.fsOf l) w4))))) (List.take ((hiN (List.length (Frm.encs (Frm.fsOf l) w4)) Option.none) - (loN (Option.some (n % (wr IntKind.i64 ((((List.length (Frm.encs (Frm.fsOf l) w4)) : Nat) : Int) + 1)))))) (List.drop (0 + ((loN (Option.some (n % (wr IntKind.i64 ((((List.length (Frm.encs (Frm.fsOf l) w4)) : Nat) : Int) + 1))))) * 1)) (Frm.encs (Frm.fsOf l) w4)))))) : Nat) : Int) == 0) Bool.false)
 -- THEN
 (cnd (leB ((List.length (Frm.Fed.fs (Frm.feedS [] (List.take ((hiN (List.length (Frm.encs (Frm.fsOf l) w4)) (Option.some (n % (wr IntKind.i64 ((((List.length (Frm.encs (Frm.fsOf l) w4)) : Nat) : Int) + 1))))) - x6) (List.drop (0 + (x6 * 1)) (Frm.encs (Frm.fsOf l) w4)))))) * 40) x4)
 (cnd ((List.length (Frm.Fed.fs (Frm.feedS [] (List.take ((hiN (List.length (Frm.encs (Frm.fsOf l) w4)) (Option.some (n % (wr IntKind.i64 ((((List.length (Frm.encs (Frm.fsOf l) w4)) : Nat) : Int) + 1))))) - x6) (List.drop (0 + (x6 * 1)) (Frm.encs (Frm.fsOf l) w4)))))) == (List.length (Frm.Fed.fs (Frm.feedS [] (List.take ((hiN (List.length (Frm.encs (Frm.fsOf l) w4)) (Option.some (n % (wr IntKind.i64 ((((List.length (Frm.encs (Frm.fsOf l) w4)) : Nat) : Int) + 1))))) - x6) (List.drop (0 + (x6 * 1)) (Frm.encs (Frm.fsOf l) w4)))))))
 (cnd (leB (((List.length (Frm.Fed.fs (Frm.feedS [] (List.take ((hiN (List.length (Frm.encs (Frm.fsOf l) w4)) (Option.some (n % (wr IntKind.i64 ((((List.length (Frm.encs (Frm.fsOf l) w4)) : Nat) : Int) + 1))))) - x6) (List.drop (0 + (x6 * 1)) (Frm.encs (Frm.fsOf l) w4)))))) + (List.length (Frm.Fed.fs (Frm.feedS (Frm.Fed.rest (Frm.feedS [] (List.take ((hiN (List.length (Frm.encs (Frm.fsOf l) w4)) (Option.some (n % (wr IntKind.i64 ((((List.length (Frm.encs (Frm.fsOf l) w4)) : Nat) : Int) + 1))))) - x6) (List.drop (0 + (x6 * 1)) (Frm.encs (Frm.fsOf l) w4))))) (List.take ((hiN (List.length (Frm.encs (Frm.fsOf l) w4)) Option.none) - (loN (Option.some (n % (wr IntKind.i64 ((((List.length (Frm.encs (Frm.fsOf l) w4)) : Nat) : Int) + 1)))))) (List.drop (0 + ((loN (Option.some (n % (wr IntKind.i64 ((((List.length (Frm.encs (Frm.fsOf l) w4)) : Nat) : Int) + 1))))) * 1)) (Frm.encs (Frm.fsOf l) w4))))))) * 40) x4)
 (cnd ((Frm.isFrs ((List.length (Frm.Fed.fs (Frm.feedS [] (List.take ((hiN (List.length (Frm.encs (Frm.fsOf l) w4)) (Option.some (n % (wr IntKind.i64 ((((List.length (Frm.encs (Frm.fsOf l) w4)) : Nat) : Int) + 1))))) - x6) (List.drop (0 + (x6 * 1)) (Frm.encs (Frm.fsOf l) w4)))))) + (List.length (Frm.Fed.fs (Frm.feedS (Frm.Fed.rest (Frm.feedS [] (List.take ((hiN (List.length (Frm.encs (Frm.fsOf l) w4)) (Option.some (n % (wr IntKind.i64 ((((List.length (Frm.encs (Frm.fsOf l) w4)) : Nat) : Int) + 1))))) - x6) (List.drop (0 + (x6 * 1)) (Frm.encs (Frm.fsOf l) w4))))) (List.take ((hiN (List.length (Frm.encs (Frm.fsOf l) w4)) Option.none) - (loN (Option.some (n % (wr IntKind.i64 ((((List.length (Frm.encs (Frm.fsOf l) w4)) : Nat) : Int) + 1)))))) (List.drop (0 + ((loN (Option.some (n % (wr IntKind.i64 ((((List.length (Frm.encs (Frm.fsOf l) w4)) : Nat) : Int) + 1))))) * 1)) (Frm.encs (Frm.fsOf l) w4))))))) (catF (List.length (Frm.Fed.fs (Frm.feedS [] (List.take ((hiN (List.length (Frm.encs (Frm.fsOf l) w4)) (Option.some (n % (wr IntKind.i64 ((((List.length (Frm.encs (Frm.fsOf l) w4)) : Nat) : Int) + 1))))) - x6) (List.drop (0 + (x6 * 1)) (Frm.encs (Frm.fsOf l) w4)))))) (Frm.frs (Frm.Fed.fs (Frm.feedS [] (List.take ((hiN (List.length (Frm.encs (Frm.fsOf l) w4)) (Option.some (n % (wr IntKind.i64 ((((List.length (Frm.encs (Frm.fsOf l) w4)) : Nat) : Int) + 1))))) - x6) (List.drop (0 + (x6 * 1)) (Frm.encs (Frm.fsOf l) w4)))))) (Frm.frs (Frm.Fed.fs (Frm.feedS (Frm.Fed.rest (Frm.feedS [] (List.take ((hiN (List.length (Frm.encs (Frm.fsOf l) w4)) (Option.some (n % (wr IntKind.i64 ((((List.length (Frm.encs (Frm.fsOf l) w4)) : Nat) : Int) + 1))))) - x6) (List.drop (0 + (x6 * 1)) (Frm.encs (Frm.fsOf l) w4))))) (List.take ((hiN (List.length (Frm.encs (Frm.fsOf l) w4)) Option.none) - (loN (Option.some (n % (wr IntKind.i64 ((((List.length (Frm.encs (Frm.fsOf l) w4)) : Nat) : Int) + 1)))))) (List.drop (0 + ((loN (Option.some (n % (wr IntKind.i64 ((((List.length (Frm.encs (Frm.fsOf l) w4)) : Nat) : Int) + 1))))) * 1)) (Frm.encs (Frm.fsOf l) w4)))))))) && (Frm.isFrs x1 (Frm.frs x3)))
 (K (AV.bool (cond Bool.true (Decidable.decide (Frm.frsOf ((List.length (Frm.Fed.fs (Frm.feedS [] (List.take ((hiN (List.length (Frm.encs (Frm.fsOf l) w4)) (Option.some (n % (wr IntKind.i64 ((((List.length (Frm.encs (Frm.fsOf l) w4)) : Nat) : Int) + 1))))) - x6) (List.drop (0 + (x6 * 1)) (Frm.encs (Frm.fsOf l) w4)))))) + (List.length (Frm.Fed.fs (Frm.feedS (Frm.Fed.rest (Frm.feedS [] (List.take ((hiN (List.length (Frm.encs (Frm.fsOf l) w4)) (Option.some (n % (wr IntKind.i64 ((((List.length (Frm.encs (Frm.fsOf l) w4)) : Nat) : Int) + 1))))) - x6) (List.drop (0 + (x6 * 1)) (Frm.encs (Frm.fsOf l) w4))))) (List.take ((hiN (List.length (Frm.encs (Frm.fsOf l) w4)) Option.none) - (loN (Option.some (n % (wr IntKind.i64 ((((List.length (Frm.encs (Frm.fsOf l) w4)) : Nat) : Int) + 1)))))) (List.drop (0 + ((loN (Option.some (n % (wr IntKind.i64 ((((List.length (Frm.encs (Frm.fsOf l) w4)) : Nat) : Int) + 1))))) * 1)) (Frm.encs (Frm.fsOf l) w4))))))) (catF (List.length (Frm.Fed.fs (Frm.feedS [] (List.take ((hiN (List.length (Frm.encs (Frm.fsOf l) w4)) (Option.some (n % (wr IntKind.i64 ((((List.length (Frm.encs (Frm.fsOf l) w4)) : Nat) : Int) + 1))))) - x6) (List.drop (0 + (x6 * 1)) (Frm.encs (Frm.fsOf l) w4)))))) (Frm.frs (Frm.Fed.fs (Frm.feedS [] (List.take ((hiN (List.length (Frm.encs (Frm.fsOf l) w4)) (Option.some (n % (wr IntKind.i64 ((((List.length (Frm.encs (Frm.fsOf l) w4)) : Nat) : Int) + 1))))) - x6) (List.drop (0 + (x6 * 1)) (Frm.encs (Frm.fsOf l) w4)))))) (Frm.frs (Frm.Fed.fs (Frm.feedS (Frm.Fed.rest (Frm.feedS [] (List.take ((hiN (List.length (Frm.encs (Frm.fsOf l) w4)) (Option.some (n % (wr IntKind.i64 ((((List.length (Frm.encs (Frm.fsOf l) w4)) : Nat) : Int) + 1))))) - x6) (List.drop (0 + (x6 * 1)) (Frm.encs (Frm.fsOf l) w4))))) (List.take ((hiN (List.length (Frm.encs (Frm.fsOf l) w4)) Option.none) - (loN (Option.some (n % (wr IntKind.i64 ((((List.length (Frm.encs (Frm.fsOf l) w4)) : Nat) : Int) + 1)))))) (List.drop (0 + ((loN (Option.some (n % (wr IntKind.i64 ((((List.length (Frm.encs (Frm.fsOf l) w4)) : Nat) : Int) + 1))))) * 1)) (Frm.encs (Frm.fsOf l) w4))))))) = x8)) Bool.false)) [])))))
 -- ELSE
 (K (AV.bool Bool.false) []))
 -- ELSE
 (K (AV.bool Bool.false) []))
 -- ELSE
 (K (AV.bool Bool.false) []))
 -- ELSE
 (K (AV.bool Bool.false) []))
 -- ELSE
 (K (AV.bool Bool.false) []))))))))))))) := by kernel_rfl

theorem fchunks_eq (b : List UInt8) (n : Int) (K : AV → Heap → Prop) : walk Try.E R0 F3.C (fun _ _ => .unroll 2) 5 4 [.vec8 false b, .int .i64 n] K = (
 let x0 : Nat := (List.length b)
 let x1 : Int := (wr IntKind.i64 (((x0 : Nat) : Int) + 1))
 let x2 : Int := 9223372036854775807
 let x3 : List UInt8 := (sliceL Option.none (Option.some (n % x1)) b)
 let x4 : List UInt8 := (Frm.Fed.rest (Frm.feedS [] x3))
 let x5 : List UInt8 := (sliceL (Option.some (n % x1)) Option.none b)
 let x6 : Int := (Frm.Fed.e (Frm.feedS [] x3))
 let x7 : List UInt8 := (List.take 1 (List.drop 0 [97]))
 let x8 : Bool := (Frm.faultS 1 0 x7) == 0
 let x9 : Bool := cond Bool.true ((((List.length (Frm.encS 1 0 x7)) : Nat) : Int) == 5) Bool.false
 let x10 : Int := (Frm.Fed.e (Frm.feedS [] b))
 let x11 : List Fr := (Frm.Fed.fs (Frm.feedS [] x3))
 let x12 : Nat := (List.length x11)
 let x13 : Nat := 140737488355328
 let x14 : List Fr := (Frm.Fed.fs (Frm.feedS x4 x5))
 let x15 : Nat := (x12 + (List.length x14))
 let x16 : List Fr := (Frm.Fed.fs (Frm.feedS [] b))
 let x17 : Nat := (List.length x16)
 let x18 : List Fr := Frm.frsOf x17 (Frm.frs x16)
 let x19 : List Fr := Frm.frsOf x15 (catF x12 (Frm.frs x11) (Frm.frs x14))
 cnd ((Decidable.decide (0 < x1)) && (Decidable.decide (x1 ≤ x2)))
 (cnd (leB (0 + x0) 1000000000)
 (cnd (Bool.true && (sliceOk Option.none (Option.some (n % x1)) x0))
 (cnd (leB (0 + (List.length x3)) 1000000000)
 (cnd (Bool.true && (sliceOk (Option.some (n % x1)) Option.none x0))
 (cnd (leB ((List.length x4) + (List.length x5)) 1000000000)
 (ite2 (x6 != 0)
 -- THEN
 (ite2 (x8)
 -- THEN
 (ite2 (x9)
 -- THEN
 (K (AV.bool (cond Bool.true (x10 == x6) Bool.false)) [])
 -- ELSE
 (K (AV.bool Bool.false) []))
 -- ELSE
 (K (AV.bool Bool.false) []))
 -- ELSE
 (ite2 (x8)
 -- THEN
 (ite2 (x9)
 -- THEN
 (ite2 (cond Bool.true (x10 == (Frm.Fed.e (Frm.feedS x4 x5))) Bool.false)
 -- THEN
 (ite2 (x10 != 0)
 -- THEN
 (K (AV.bool Bool.true) [])
 -- ELSE
 (cnd (leB (x12 * 40) x13)
 (cnd (x12 == x12)
 (cnd (leB (x15 * 40) x13)
 (cnd ((Frm.isFrs x17 (Frm.frs x16)) && (Frm.isFrs x15 (catF x12 (Frm.frs x11) (Frm.frs x14))))
 (ite2 (Decidable.decide (x18 = x19))
 -- THEN
 (K (AV.bool (cond Bool.true (cond Bool.false Bool.true (cond Bool.true ((Frm.Fed.rest (Frm.feedS [] b)) == (Frm.Fed.rest (Frm.feedS x4 x5))) Bool.false)) Bool.false)) [])
 -- ELSE
 (K (AV.bool Bool.false) [])))))))
 -- ELSE
 (K (AV.bool Bool.false) []))
 -- ELSE
 (K (AV.bool Bool.false) []))
 -- ELSE
 (K (AV.bool Bool.false) []))))))))) := by kernel_rfl

end Go.Proofs.Ytfpladpbnbpehaa
