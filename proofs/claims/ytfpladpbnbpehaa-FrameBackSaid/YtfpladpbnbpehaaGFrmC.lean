import Derived.Test.YtfpladpbnbpehaaFrmC
set_option linter.unusedSimpArgs false
set_option linter.unusedVariables false
namespace Go.Proofs.Ytfpladpbnbpehaa
open Go Go.V Go.Frm
set_option maxHeartbeats 0
set_option maxRecDepth 100000

theorem ffeed_eq (fa fb : Bool) (h b : List UInt8) (K : AV → Heap → Prop) : walk Try.E R0 F1.C (fun _ _ => feedL (h ++ b)) 5 12 [.vec8 fa h, .vec8 fb b] K = (
 let x0 : Nat := (List.length h)
 let x1 : Nat := 140737488355328
 let x2 : Nat := (x0 + (List.length b))
 let x3 : Nat := (List.length (h ++ b))
 ite2 (ltI 903 ((x0 : Nat) : Int))
 -- THEN
 (K (AV.tup [AV.vec8 Bool.true [], AV.vec8 Bool.true [], AV.int IntKind.i64 9]) [])
 -- ELSE
 (cnd (leB (x0 * 1) x1)
 (cnd (x0 == x0)
 (cnd (leB (x2 * 1) x1)
 ((∃ w0 : Nat × List Fr, (((Prod.fst w0) ≤ x3) ∧ (((List.length (Prod.snd w0)) ≤ (Prod.fst w0)) ∧ (Frm.fdF (h ++ b) = Frm.Fed.pre (Prod.snd w0) (Frm.fdF (List.drop (Prod.fst w0) (h ++ b)))))) ∧ cnd (Bool.true && ((0 == (Prod.fst w0)) && Bool.true))
 ((x2 = x3 - (Prod.fst w0)) ∧ ((0 = List.length (Prod.snd w0)) ∧ ((h ++ b = h ++ b) ∧ cnd (nilE (Ent.tail 3 (List.length (Prod.snd w0))))
 (True))))) ∧ (∀ w1 : Nat × List Fr, (((Prod.fst w1) ≤ x3) ∧ (((List.length (Prod.snd w1)) ≤ (Prod.fst w1)) ∧ (Frm.fdF (h ++ b) = Frm.Fed.pre (Prod.snd w1) (Frm.fdF (List.drop (Prod.fst w1) (h ++ b))))) → ite2 (Bool.not (ltI (((x3 - (Prod.fst w1)) : Nat) : Int) 4))
 -- THEN
 (cnd ((inB 0 (x3 - (Prod.fst w1))) && Bool.true)
 (cnd (leB ((Prod.fst w1) + (x3 - (Prod.fst w1))) x3)
 (cnd ((inB 1 (x3 - (Prod.fst w1))) && Bool.true)
 (cnd (leB ((Prod.fst w1) + (x3 - (Prod.fst w1))) x3)
 (cnd ((inB 2 (x3 - (Prod.fst w1))) && Bool.true)
 (cnd (leB ((Prod.fst w1) + (x3 - (Prod.fst w1))) x3)
 (cnd ((inB 3 (x3 - (Prod.fst w1))) && Bool.true)
 (cnd (leB ((Prod.fst w1) + (x3 - (Prod.fst w1))) x3)
 (ite2 ((Frm.faultS (((UInt8.toNat (List.getD (h ++ b) (ofs (Prod.fst w1) 0) 0)) : Nat) : Int) (((UInt8.toNat (List.getD (h ++ b) (ofs (Prod.fst w1) 1) 0)) : Nat) : Int) []) != 0)
 -- THEN
 (K (AV.tup [AV.vec8 Bool.true [], AV.vec8 Bool.true [], AV.int IntKind.i64 (Frm.faultS (((UInt8.toNat (List.getD (h ++ b) (ofs (Prod.fst w1) 0) 0)) : Nat) : Int) (((UInt8.toNat (List.getD (h ++ b) (ofs (Prod.fst w1) 1) 0)) : Nat) : Int) [])]) [])
 -- ELSE
 (ite2 (ltI 900 (bits BinOp.or IntKind.i64 (wr IntKind.i64 ((((UInt8.toNat (List.getD (h ++ b) (ofs (Prod.fst w1) 2) 0)) : Nat) : Int) * 256)) (((UInt8.toNat (List.getD (h ++ b) (ofs (Prod.fst w1) 3) 0)) : Nat) : Int)))
 -- THEN
 (K (AV.tup [AV.vec8 Bool.true [], AV.vec8 Bool.true [], AV.int IntKind.i64 1]) [])
 -- ELSE
 (ite2 ((((UInt8.toNat (List.getD (h ++ b) (ofs (Prod.fst w1) 0) 0)) : Nat) : Int) == 5)
 -- THEN
 (ite2 (cond Bool.true (ltI 0 (bits BinOp.or IntKind.i64 (wr IntKind.i64 ((((UInt8.toNat (List.getD (h ++ b) (ofs (Prod.fst w1) 2) 0)) : Nat) : Int) * 256)) (((UInt8.toNat (List.getD (h ++ b) (ofs (Prod.fst w1) 3) 0)) : Nat) : Int))) Bool.false)
 -- THEN
 (K (AV.tup [AV.vec8 Bool.true [], AV.vec8 Bool.true [], AV.int IntKind.i64 3]) [])
 -- ELSE
 (ite2 (ltI (((x3 - (Prod.fst w1)) : Nat) : Int) (wr IntKind.i64 (4 + (bits BinOp.or IntKind.i64 (wr IntKind.i64 ((((UInt8.toNat (List.getD (h ++ b) (ofs (Prod.fst w1) 2) 0)) : Nat) : Int) * 256)) (((UInt8.toNat (List.getD (h ++ b) (ofs (Prod.fst w1) 3) 0)) : Nat) : Int)))))
 -- THEN
 (cnd (Bool.true && (leB ((Prod.fst w1) + (x3 - (Prod.fst w1))) x3))
 (cnd (leB ((List.length (List.take (x3 - (Prod.fst w1)) (List.drop (Prod.fst w1) (h ++ b)))) * 1) x1)
 (K (AV.tup [AV.slv 0 3 (List.length (Prod.snd w1)) (Frm.frs (Prod.snd w1)), AV.sl 1 0 1 (List.length (List.take (x3 - (Prod.fst w1)) (List.drop (Prod.fst w1) (h ++ b)))), AV.int IntKind.i64 0]) [Ent.tail 3 (List.length (Prod.snd w1)), Ent.grow8 (List.take (x3 - (Prod.fst w1)) (List.drop (Prod.fst w1) (h ++ b))) []])))
 -- ELSE
 (cnd (Bool.true && (sliceOk (Option.some 4) (Option.some (wr IntKind.i64 (4 + (bits BinOp.or IntKind.i64 (wr IntKind.i64 ((((UInt8.toNat (List.getD (h ++ b) (ofs (Prod.fst w1) 2) 0)) : Nat) : Int) * 256)) (((UInt8.toNat (List.getD (h ++ b) (ofs (Prod.fst w1) 3) 0)) : Nat) : Int))))) (x3 - (Prod.fst w1))))
 (cnd (Bool.true && (leB (((Prod.fst w1) + 4) + ((hiN (x3 - (Prod.fst w1)) (Option.some (wr IntKind.i64 (4 + (bits BinOp.or IntKind.i64 (wr IntKind.i64 ((((UInt8.toNat (List.getD (h ++ b) (ofs (Prod.fst w1) 2) 0)) : Nat) : Int) * 256)) (((UInt8.toNat (List.getD (h ++ b) (ofs (Prod.fst w1) 3) 0)) : Nat) : Int)))))) - 4)) x3))
 (cnd (leB ((List.length (List.take ((hiN (x3 - (Prod.fst w1)) (Option.some (wr IntKind.i64 (4 + (bits BinOp.or IntKind.i64 (wr IntKind.i64 ((((UInt8.toNat (List.getD (h ++ b) (ofs (Prod.fst w1) 2) 0)) : Nat) : Int) * 256)) (((UInt8.toNat (List.getD (h ++ b) (ofs (Prod.fst w1) 3) 0)) : Nat) : Int)))))) - 4) (List.drop ((Prod.fst w1) + 4) (h ++ b)))) * 1) x1)
 (cnd (Bool.true && (sliceOk (Option.some (wr IntKind.i64 (4 + (bits BinOp.or IntKind.i64 (wr IntKind.i64 ((((UInt8.toNat (List.getD (h ++ b) (ofs (Prod.fst w1) 2) 0)) : Nat) : Int) * 256)) (((UInt8.toNat (List.getD (h ++ b) (ofs (Prod.fst w1) 3) 0)) : Nat) : Int))))) Option.none (x3 - (Prod.fst w1))))
 (cnd ((Bool.true && (Bool.true && ((Bool.true && (Bool.true && (leB (0 + (List.length (List.take ((hiN (x3 - (Prod.fst w1)) (Option.some (wr IntKind.i64 (4 + (bits BinOp.or IntKind.i64 (wr IntKind.i64 ((((UInt8.toNat (List.getD (h ++ b) (ofs (Prod.fst w1) 2) 0)) : Nat) : Int) * 256)) (((UInt8.toNat (List.getD (h ++ b) (ofs (Prod.fst w1) 3) 0)) : Nat) : Int)))))) - 4) (List.drop ((Prod.fst w1) + 4) (h ++ b))))) (List.length (List.take ((hiN (x3 - (Prod.fst w1)) (Option.some (wr IntKind.i64 (4 + (bits BinOp.or IntKind.i64 (wr IntKind.i64 ((((UInt8.toNat (List.getD (h ++ b) (ofs (Prod.fst w1) 2) 0)) : Nat) : Int) * 256)) (((UInt8.toNat (List.getD (h ++ b) (ofs (Prod.fst w1) 3) 0)) : Nat) : Int)))))) - 4) (List.drop ((Prod.fst w1) + 4) (h ++ b))))))) && Bool.true))) && Bool.true)
 (cnd ((List.length (Prod.snd w1)) == (List.length (Prod.snd w1)))
 (cnd (leB (((List.length (Prod.snd w1)) + 1) * 40) x1)
 ((∃ w2 : Nat × List Fr, ((((fun x => x3 - (Prod.fst x)) w2) < ((fun x => x3 - (Prod.fst x)) w1)) ∧ (((Prod.fst w2) ≤ x3) ∧ (((List.length (Prod.snd w2)) ≤ (Prod.fst w2)) ∧ (Frm.fdF (h ++ b) = Frm.Fed.pre (Prod.snd w2) (Frm.fdF (List.drop (Prod.fst w2) (h ++ b))))))) ∧ cnd (Bool.true && ((((Prod.fst w1) + ((loN (Option.some (wr IntKind.i64 (4 + (bits BinOp.or IntKind.i64 (wr IntKind.i64 ((((UInt8.toNat (List.getD (h ++ b) (ofs (Prod.fst w1) 2) 0)) : Nat) : Int) * 256)) (((UInt8.toNat (List.getD (h ++ b) (ofs (Prod.fst w1) 3) 0)) : Nat) : Int)))))) * 1)) == (Prod.fst w2)) && Bool.true))
 (((hiN (x3 - (Prod.fst w1)) Option.none) - (loN (Option.some (wr IntKind.i64 (4 + (bits BinOp.or IntKind.i64 (wr IntKind.i64 ((((UInt8.toNat (List.getD (h ++ b) (ofs (Prod.fst w1) 2) 0)) : Nat) : Int) * 256)) (((UInt8.toNat (List.getD (h ++ b) (ofs (Prod.fst w1) 3) 0)) : Nat) : Int)))))) = x3 - (Prod.fst w2)) ∧ (((List.length (Prod.snd w1)) + 1 = List.length (Prod.snd w2)) ∧ ((∀ w3 : Nat, (w3 < (List.length (Prod.snd w2)) → leR (catF (List.length (Prod.snd w1)) (Frm.frs (Prod.snd w1)) (rowF [AV.agg [AV.int IntKind.i64 (((UInt8.toNat (List.getD (h ++ b) (ofs (Prod.fst w1) 0) 0)) : Nat) : Int), AV.int IntKind.i64 (((UInt8.toNat (List.getD (h ++ b) (ofs (Prod.fst w1) 1) 0)) : Nat) : Int), AV.vec8 Bool.false (List.take (List.length (List.take ((hiN (x3 - (Prod.fst w1)) (Option.some (wr IntKind.i64 (4 + (bits BinOp.or IntKind.i64 (wr IntKind.i64 ((((UInt8.toNat (List.getD (h ++ b) (ofs (Prod.fst w1) 2) 0)) : Nat) : Int) * 256)) (((UInt8.toNat (List.getD (h ++ b) (ofs (Prod.fst w1) 3) 0)) : Nat) : Int)))))) - 4) (List.drop ((Prod.fst w1) + 4) (h ++ b)))) (List.drop 0 (List.take ((hiN (x3 - (Prod.fst w1)) (Option.some (wr IntKind.i64 (4 + (bits BinOp.or IntKind.i64 (wr IntKind.i64 ((((UInt8.toNat (List.getD (h ++ b) (ofs (Prod.fst w1) 2) 0)) : Nat) : Int) * 256)) (((UInt8.toNat (List.getD (h ++ b) (ofs (Prod.fst w1) 3) 0)) : Nat) : Int)))))) - 4) (List.drop ((Prod.fst w1) + 4) (h ++ b)))))]]) w3) [AV.int IntKind.i64 (Frm.Fr.kind (List.getD (Prod.snd w2) w3 Frm.fr0)), AV.int IntKind.i64 (Frm.Fr.id (List.getD (Prod.snd w2) w3 Frm.fr0)), AV.vec8 Bool.false (Frm.Fr.body (List.getD (Prod.snd w2) w3 Frm.fr0))])) ∧ ((h ++ b = h ++ b) ∧ (((List.length (Prod.snd w1)) + 1 = List.length (Prod.snd w2)) ∧ True))))))))))))))))
 -- ELSE
 (ite2 (ltI (((x3 - (Prod.fst w1)) : Nat) : Int) (wr IntKind.i64 (4 + (bits BinOp.or IntKind.i64 (wr IntKind.i64 ((((UInt8.toNat (List.getD (h ++ b) (ofs (Prod.fst w1) 2) 0)) : Nat) : Int) * 256)) (((UInt8.toNat (List.getD (h ++ b) (ofs (Prod.fst w1) 3) 0)) : Nat) : Int)))))
 -- THEN
 (cnd (Bool.true && (leB ((Prod.fst w1) + (x3 - (Prod.fst w1))) x3))
 (cnd (leB ((List.length (List.take (x3 - (Prod.fst w1)) (List.drop (Prod.fst w1) (h ++ b)))) * 1) x1)
 (K (AV.tup [AV.slv 0 3 (List.length (Prod.snd w1)) (Frm.frs (Prod.snd w1)), AV.sl 1 0 1 (List.length (List.take (x3 - (Prod.fst w1)) (List.drop (Prod.fst w1) (h ++ b)))), AV.int IntKind.i64 0]) [Ent.tail 3 (List.length (Prod.snd w1)), Ent.grow8 (List.take (x3 - (Prod.fst w1)) (List.drop (Prod.fst w1) (h ++ b))) []])))
 -- ELSE
 (cnd (Bool.true && (sliceOk (Option.some 4) (Option.some (wr IntKind.i64 (4 + (bits BinOp.or IntKind.i64 (wr IntKind.i64 ((((UInt8.toNat (List.getD (h ++ b) (ofs (Prod.fst w1) 2) 0)) : Nat) : Int) * 256)) (((UInt8.toNat (List.getD (h ++ b) (ofs (Prod.fst w1) 3) 0)) : Nat) : Int))))) (x3 - (Prod.fst w1))))
 (cnd (Bool.true && (leB (((Prod.fst w1) + 4) + ((hiN (x3 - (Prod.fst w1)) (Option.some (wr IntKind.i64 (4 + (bits BinOp.or IntKind.i64 (wr IntKind.i64 ((((UInt8.toNat (List.getD (h ++ b) (ofs (Prod.fst w1) 2) 0)) : Nat) : Int) * 256)) (((UInt8.toNat (List.getD (h ++ b) (ofs (Prod.fst w1) 3) 0)) : Nat) : Int)))))) - 4)) x3))
 (cnd (leB ((List.length (List.take ((hiN (x3 - (Prod.fst w1)) (Option.some (wr IntKind.i64 (4 + (bits BinOp.or IntKind.i64 (wr IntKind.i64 ((((UInt8.toNat (List.getD (h ++ b) (ofs (Prod.fst w1) 2) 0)) : Nat) : Int) * 256)) (((UInt8.toNat (List.getD (h ++ b) (ofs (Prod.fst w1) 3) 0)) : Nat) : Int)))))) - 4) (List.drop ((Prod.fst w1) + 4) (h ++ b)))) * 1) x1)
 (cnd (Bool.true && (sliceOk (Option.some (wr IntKind.i64 (4 + (bits BinOp.or IntKind.i64 (wr IntKind.i64 ((((UInt8.toNat (List.getD (h ++ b) (ofs (Prod.fst w1) 2) 0)) : Nat) : Int) * 256)) (((UInt8.toNat (List.getD (h ++ b) (ofs (Prod.fst w1) 3) 0)) : Nat) : Int))))) Option.none (x3 - (Prod.fst w1))))
 (cnd ((Bool.true && (Bool.true && ((Bool.true && (Bool.true && (leB (0 + (List.length (List.take ((hiN (x3 - (Prod.fst w1)) (Option.some (wr IntKind.i64 (4 + (bits BinOp.or IntKind.i64 (wr IntKind.i64 ((((UInt8.toNat (List.getD (h ++ b) (ofs (Prod.fst w1) 2) 0)) : Nat) : Int) * 256)) (((UInt8.toNat (List.getD (h ++ b) (ofs (Prod.fst w1) 3) 0)) : Nat) : Int)))))) - 4) (List.drop ((Prod.fst w1) + 4) (h ++ b))))) (List.length (List.take ((hiN (x3 - (Prod.fst w1)) (Option.some (wr IntKind.i64 (4 + (bits BinOp.or IntKind.i64 (wr IntKind.i64 ((((UInt8.toNat (List.getD (h ++ b) (ofs (Prod.fst w1) 2) 0)) : Nat) : Int) * 256)) (((UInt8.toNat (List.getD (h ++ b) (ofs (Prod.fst w1) 3) 0)) : Nat) : Int)))))) - 4) (List.drop ((Prod.fst w1) + 4) (h ++ b))))))) && Bool.true))) && Bool.true)
 (cnd ((List.length (Prod.snd w1)) == (List.length (Prod.snd w1)))
 (cnd (leB (((List.length (Prod.snd w1)) + 1) * 40) x1)
 ((∃ w4 : Nat × List Fr, ((((fun x => x3 - (Prod.fst x)) w4) < ((fun x => x3 - (Prod.fst x)) w1)) ∧ (((Prod.fst w4) ≤ x3) ∧ (((List.length (Prod.snd w4)) ≤ (Prod.fst w4)) ∧ (Frm.fdF (h ++ b) = Frm.Fed.pre (Prod.snd w4) (Frm.fdF (List.drop (Prod.fst w4) (h ++ b))))))) ∧ cnd (Bool.true && ((((Prod.fst w1) + ((loN (Option.some (wr IntKind.i64 (4 + (bits BinOp.or IntKind.i64 (wr IntKind.i64 ((((UInt8.toNat (List.getD (h ++ b) (ofs (Prod.fst w1) 2) 0)) : Nat) : Int) * 256)) (((UInt8.toNat (List.getD (h ++ b) (ofs (Prod.fst w1) 3) 0)) : Nat) : Int)))))) * 1)) == (Prod.fst w4)) && Bool.true))
 (((hiN (x3 - (Prod.fst w1)) Option.none) - (loN (Option.some (wr IntKind.i64 (4 + (bits BinOp.or IntKind.i64 (wr IntKind.i64 ((((UInt8.toNat (List.getD (h ++ b) (ofs (Prod.fst w1) 2) 0)) : Nat) : Int) * 256)) (((UInt8.toNat (List.getD (h ++ b) (ofs (Prod.fst w1) 3) 0)) : Nat) : Int)))))) = x3 - (Prod.fst w4)) ∧ (((List.length (Prod.snd w1)) + 1 = List.length (Prod.snd w4)) ∧ ((∀ w5 : Nat, (w5 < (List.length (Prod.snd w4)) → leR (catF (List.length (Prod.snd w1)) (Frm.frs (Prod.snd w1)) (rowF [AV.agg [AV.int IntKind.i64 (((UInt8.toNat (List.getD (h ++ b) (ofs (Prod.fst w1) 0) 0)) : Nat) : Int), AV.int IntKind.i64 (((UInt8.toNat (List.getD (h ++ b) (ofs (Prod.fst w1) 1) 0)) : Nat) : Int), AV.vec8 Bool.false (List.take (List.length (List.take ((hiN (x3 - (Prod.fst w1)) (Option.some (wr IntKind.i64 (4 + (bits BinOp.or IntKind.i64 (wr IntKind.i64 ((((UInt8.toNat (List.getD (h ++ b) (ofs (Prod.fst w1) 2) 0)) : Nat) : Int) * 256)) (((UInt8.toNat (List.getD (h ++ b) (ofs (Prod.fst w1) 3) 0)) : Nat) : Int)))))) - 4) (List.drop ((Prod.fst w1) + 4) (h ++ b)))) (List.drop 0 (List.take ((hiN (x3 - (Prod.fst w1)) (Option.some (wr IntKind.i64 (4 + (bits BinOp.or IntKind.i64 (wr IntKind.i64 ((((UInt8.toNat (List.getD (h ++ b) (ofs (Prod.fst w1) 2) 0)) : Nat) : Int) * 256)) (((UInt8.toNat (List.getD (h ++ b) (ofs (Prod.fst w1) 3) 0)) : Nat) : Int)))))) - 4) (List.drop ((Prod.fst w1) + 4) (h ++ b)))))]]) w5) [AV.int IntKind.i64 (Frm.Fr.kind (List.getD (Prod.snd w4) w5 Frm.fr0)), AV.int IntKind.i64 (Frm.Fr.id (List.getD (Prod.snd w4) w5 Frm.fr0)), AV.vec8 Bool.false (Frm.Fr.body (List.getD (Prod.snd w4) w5 Frm.fr0))])) ∧ ((h ++ b = h ++ b) ∧ (((List.length (Prod.snd w1)) + 1 = List.length (Prod.snd w4)) ∧ True))))))))))))))))))))))))))
 -- ELSE
 (cnd (Bool.true && (leB ((Prod.fst w1) + (x3 - (Prod.fst w1))) x3))
 (cnd (leB ((List.length (List.take (x3 - (Prod.fst w1)) (List.drop (Prod.fst w1) (h ++ b)))) * 1) x1)
 (K (AV.tup [AV.slv 0 3 (List.length (Prod.snd w1)) (Frm.frs (Prod.snd w1)), AV.sl 1 0 1 (List.length (List.take (x3 - (Prod.fst w1)) (List.drop (Prod.fst w1) (h ++ b)))), AV.int IntKind.i64 0]) [Ent.tail 3 (List.length (Prod.snd w1)), Ent.grow8 (List.take (x3 - (Prod.fst w1)) (List.drop (Prod.fst w1) (h ++ b))) []])))))))))) := by kernel_rfl

end Go.Proofs.Ytfpladpbnbpehaa
