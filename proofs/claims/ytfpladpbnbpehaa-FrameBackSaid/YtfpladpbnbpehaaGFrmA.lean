import Derived.Test.YtfpladpbnbpehaaFrmA
set_option linter.unusedSimpArgs false
set_option linter.unusedVariables false
namespace Go.Proofs.Ytfpladpbnbpehaa
open Go Go.V Go.Frm
set_option maxHeartbeats 0
set_option maxRecDepth 100000

theorem framesOf_eq (l : List Raw3) (K : AV → Heap → Prop) : walk Try.E R0 F0.C (fun _ _ => framesL l) 5 8 [.vecr false 4 l.length (rawsF l)] K = (
 let x0 : Nat := (List.length l)
 let x1 : Nat := (Min.min x0 8)
 let x2 : Int := ((x1 : Nat) : Int)
 let x3 : List AV := (List.replicate 1 (AV.agg [AV.int IntKind.i64 0, AV.int IntKind.i64 0, AV.vec8 Bool.true []]))
 let x4 : Nat := (((fun p => Prod.fst p) (0, Operand.tmp 31)) * (TI.size Try.ti27))
(∃ w0 : Nat, (Inv.upTo [AV.int IntKind.i64 x2] w0) ∧ ((0 = w0) ∧ ((x1 = x1) ∧ ((∀ w1 : Nat, (w1 < (Min.min x0 (Int.toNat 8)) → leR [AV.int IntKind.i64 (Raw3.kind (List.getD l w1 raw0)), AV.int IntKind.i64 (Raw3.a (List.getD l w1 raw0)), AV.int IntKind.i64 (Raw3.b (List.getD l w1 raw0)), AV.str (Raw3.text (List.getD l w1 raw0))] [AV.int IntKind.i64 (Raw3.kind (List.getD l w1 raw0)), AV.int IntKind.i64 (Raw3.a (List.getD l w1 raw0)), AV.int IntKind.i64 (Raw3.b (List.getD l w1 raw0)), AV.str (Raw3.text (List.getD l w1 raw0))])) ∧ ((AV.int IntKind.i64 x2 = AV.int IntKind.i64 x2) ∧ ((AV.int IntKind.i64 0 = AV.int IntKind.i64 ((w0 : Nat) : Int)) ∧ cnd (nilE (Ent.tail 3 w0))
 (True))))))) ∧ (∀ w2 : Nat, (Inv.upTo [AV.int IntKind.i64 x2] w2 → ite2 (ltI ((w2 : Nat) : Int) x2)
 -- THEN
 (cnd ((inB ((w2 : Nat) : Int) x1) && Bool.true)
 (ite2 ((wr IntKind.i64 (1 + ((Raw3.kind (List.getD l (Int.toNat ((w2 : Nat) : Int)) raw0)) % 5))) == 5)
 -- THEN
 (cnd (w2 == w2)
 (cnd (leB ((w2 + 1) * 40) 140737488355328)
 ((∃ w3 : Nat, (((Inv.up w3) < (Inv.up w2)) ∧ (Inv.upTo [AV.int IntKind.i64 x2] w3)) ∧ ((w2 + 1 = w3) ∧ ((∀ w4 : Nat, (w4 < w3 → leR (catF w2 (Frm.frs (Frm.fsOf l)) (rowF (setL x3 x4 (AV.agg [AV.int IntKind.i64 (wr IntKind.i64 (1 + ((Raw3.kind (List.getD l (Int.toNat ((w2 : Nat) : Int)) raw0)) % 5))), AV.int IntKind.i64 ((Raw3.a (List.getD l (Int.toNat ((w2 : Nat) : Int)) raw0)) % 256), AV.vec8 Bool.true []]))) w4) [AV.int IntKind.i64 (Frm.Fr.kind (List.getD (Frm.fsOf l) w4 Frm.fr0)), AV.int IntKind.i64 (Frm.Fr.id (List.getD (Frm.fsOf l) w4 Frm.fr0)), AV.vec8 Bool.false (Frm.Fr.body (List.getD (Frm.fsOf l) w4 Frm.fr0))])) ∧ ((x1 = x1) ∧ ((∀ w5 : Nat, (w5 < (Min.min x0 (Int.toNat 8)) → leR [AV.int IntKind.i64 (Raw3.kind (List.getD l w5 raw0)), AV.int IntKind.i64 (Raw3.a (List.getD l w5 raw0)), AV.int IntKind.i64 (Raw3.b (List.getD l w5 raw0)), AV.str (Raw3.text (List.getD l w5 raw0))] [AV.int IntKind.i64 (Raw3.kind (List.getD l w5 raw0)), AV.int IntKind.i64 (Raw3.a (List.getD l w5 raw0)), AV.int IntKind.i64 (Raw3.b (List.getD l w5 raw0)), AV.str (Raw3.text (List.getD l w5 raw0))])) ∧ ((AV.int IntKind.i64 x2 = AV.int IntKind.i64 x2) ∧ ((AV.int IntKind.i64 (wr IntKind.i64 (((w2 : Nat) : Int) + 1)) = AV.int IntKind.i64 ((w3 : Nat) : Int)) ∧ ((w2 + 1 = w3) ∧ True)))))))))))
 -- ELSE
 (cnd (w2 == w2)
 (cnd (leB ((w2 + 1) * 40) 140737488355328)
 ((∃ w6 : Nat, (((Inv.up w6) < (Inv.up w2)) ∧ (Inv.upTo [AV.int IntKind.i64 x2] w6)) ∧ ((w2 + 1 = w6) ∧ ((∀ w7 : Nat, (w7 < w6 → leR (catF w2 (Frm.frs (Frm.fsOf l)) (rowF (setL x3 x4 (AV.agg [AV.int IntKind.i64 (wr IntKind.i64 (1 + ((Raw3.kind (List.getD l (Int.toNat ((w2 : Nat) : Int)) raw0)) % 5))), AV.int IntKind.i64 ((Raw3.a (List.getD l (Int.toNat ((w2 : Nat) : Int)) raw0)) % 256), AV.vec8 Bool.false (List.take (Int.toNat 50) (Raw3.text (List.getD l (Int.toNat ((w2 : Nat) : Int)) raw0)))]))) w7) [AV.int IntKind.i64 (Frm.Fr.kind (List.getD (Frm.fsOf l) w7 Frm.fr0)), AV.int IntKind.i64 (Frm.Fr.id (List.getD (Frm.fsOf l) w7 Frm.fr0)), AV.vec8 Bool.false (Frm.Fr.body (List.getD (Frm.fsOf l) w7 Frm.fr0))])) ∧ ((x1 = x1) ∧ ((∀ w8 : Nat, (w8 < (Min.min x0 (Int.toNat 8)) → leR [AV.int IntKind.i64 (Raw3.kind (List.getD l w8 raw0)), AV.int IntKind.i64 (Raw3.a (List.getD l w8 raw0)), AV.int IntKind.i64 (Raw3.b (List.getD l w8 raw0)), AV.str (Raw3.text (List.getD l w8 raw0))] [AV.int IntKind.i64 (Raw3.kind (List.getD l w8 raw0)), AV.int IntKind.i64 (Raw3.a (List.getD l w8 raw0)), AV.int IntKind.i64 (Raw3.b (List.getD l w8 raw0)), AV.str (Raw3.text (List.getD l w8 raw0))])) ∧ ((AV.int IntKind.i64 x2 = AV.int IntKind.i64 x2) ∧ ((AV.int IntKind.i64 (wr IntKind.i64 (((w2 : Nat) : Int) + 1)) = AV.int IntKind.i64 ((w6 : Nat) : Int)) ∧ ((w2 + 1 = w6) ∧ True)))))))))))))
 -- ELSE
 (K (AV.slv 0 3 w2 (Frm.frs (Frm.fsOf l))) [Ent.tail 3 w2])))) := by kernel_rfl

theorem fcheck_eq (k i : Int) (full : Bool) (b : List UInt8) (K : AV → Heap → Prop) : walk Try.E R0 F0.C (fun _ _ => .unroll 5) 5 10 [.agg [.int .i64 k, .int .i64 i, .vec8 full b]] K = (
 let x0 : Int := (((List.length b) : Nat) : Int)
 ite2 (ltI k 1)
 -- THEN
 (K (AV.int IntKind.i64 2) [])
 -- ELSE
 (ite2 (cond Bool.false Bool.true (ltI 5 k))
 -- THEN
 (K (AV.int IntKind.i64 2) [])
 -- ELSE
 (ite2 (ltI i 0)
 -- THEN
 (K (AV.int IntKind.i64 6) [])
 -- ELSE
 (ite2 (cond Bool.false Bool.true (ltI 255 i))
 -- THEN
 (K (AV.int IntKind.i64 6) [])
 -- ELSE
 (ite2 (ltI 900 x0)
 -- THEN
 (K (AV.int IntKind.i64 1) [])
 -- ELSE
 (ite2 (k == 5)
 -- THEN
 (ite2 (cond Bool.true (ltI 0 x0) Bool.false)
 -- THEN
 (K (AV.int IntKind.i64 3) [])
 -- ELSE
 (K (AV.int IntKind.i64 0) []))
 -- ELSE
 (K (AV.int IntKind.i64 0) []))))))) := by kernel_rfl

theorem fencode_eq (k i : Int) (full : Bool) (b : List UInt8) (K : AV → Heap → Prop) : walk Try.E R0 F0.C (fun _ _ => .unroll 5) 5 9 [.agg [.int .i64 k, .int .i64 i, .vec8 full b]] K = (
 let x0 : Nat := (List.length b)
 let x1 : Int := ((x0 : Nat) : Int)
 ite2 (ltI k 1)
 -- THEN
 (K (AV.tup [AV.vec8 Bool.true [], AV.int IntKind.i64 2]) [])
 -- ELSE
 (ite2 (cond Bool.false Bool.true (ltI 5 k))
 -- THEN
 (K (AV.tup [AV.vec8 Bool.true [], AV.int IntKind.i64 2]) [])
 -- ELSE
 (ite2 (ltI i 0)
 -- THEN
 (K (AV.tup [AV.vec8 Bool.true [], AV.int IntKind.i64 6]) [])
 -- ELSE
 (ite2 (cond Bool.false Bool.true (ltI 255 i))
 -- THEN
 (K (AV.tup [AV.vec8 Bool.true [], AV.int IntKind.i64 6]) [])
 -- ELSE
 (ite2 (ltI 900 x1)
 -- THEN
 (K (AV.tup [AV.vec8 Bool.true [], AV.int IntKind.i64 1]) [])
 -- ELSE
 (ite2 (k == 5)
 -- THEN
 (ite2 (cond Bool.true (ltI 0 x1) Bool.false)
 -- THEN
 (K (AV.tup [AV.vec8 Bool.true [], AV.int IntKind.i64 3]) [])
 -- ELSE
 (cnd (leB ((4 + x0) * 1) 140737488355328)
 (K (AV.tup [AV.sl 0 0 1 (4 + x0), AV.int IntKind.i64 0]) [Ent.grow8 ((List.set (List.set (List.set (List.set (List.replicate 4 0) 0 (UInt8.ofNat (Int.toNat (k % 256)))) 1 (UInt8.ofNat (Int.toNat (i % 256)))) 2 (UInt8.ofNat (Int.toNat ((Int.fdiv x1 256) % 256)))) 3 (UInt8.ofNat (Int.toNat (x1 % 256)))) ++ b) []])))
 -- ELSE
 (cnd (leB ((4 + x0) * 1) 140737488355328)
 (K (AV.tup [AV.sl 0 0 1 (4 + x0), AV.int IntKind.i64 0]) [Ent.grow8 ((List.set (List.set (List.set (List.set (List.replicate 4 0) 0 (UInt8.ofNat (Int.toNat (k % 256)))) 1 (UInt8.ofNat (Int.toNat (i % 256)))) 2 (UInt8.ofNat (Int.toNat ((Int.fdiv x1 256) % 256)))) 3 (UInt8.ofNat (Int.toNat (x1 % 256)))) ++ b) []])))))))) := by kernel_rfl

end Go.Proofs.Ytfpladpbnbpehaa
