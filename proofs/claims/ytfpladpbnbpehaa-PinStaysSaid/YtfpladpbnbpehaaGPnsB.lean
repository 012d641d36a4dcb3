import Derived.Test.YtfpladpbnbpehaaPnsB
set_option linter.unusedSimpArgs false
set_option linter.unusedVariables false
namespace Go.Proofs.Ytfpladpbnbpehaa
open Go Go.V Go.Pin
set_option maxHeartbeats 0
set_option maxRecDepth 100000

theorem pcheck_eq (full : Bool) (L : List Pn) (K : AV → Heap → Prop) : walk Try.E R1 P1.C (fun _ _ => checkL L) 5 22 [.vecr full 34 L.length (pcs L)] K = (
 let x0 : Nat := (List.length L)
 let x1 : Int := ((x0 : Nat) : Int)
 let x2 : Bool := (full || (Bool.not full)) && Bool.true
 ite2 (ltI 8 x1)
 -- THEN
 (K (AV.int IntKind.i64 1) [])
 -- ELSE
 ((∃ w0 : Nat, ((Inv.upTo [AV.int IntKind.i64 x1] w0) ∧ (∀ w1 : Nat, (w1 < w0 → (Pin.pinOk L w1 = Bool.true)))) ∧ cnd (x2)
 ((x0 = x0) ∧ ((∀ w2 : Nat, (w2 < x0 → leR [AV.str (Pin.Pn.name (List.getD L w2 Pin.pn0)), AV.b8 32 (Pin.Pn.key (List.getD L w2 Pin.pn0)), AV.bool (Pin.Pn.gone (List.getD L w2 Pin.pn0))] [AV.str (Pin.Pn.name (List.getD L w2 Pin.pn0)), AV.b8 32 (Pin.Pn.key (List.getD L w2 Pin.pn0)), AV.bool (Pin.Pn.gone (List.getD L w2 Pin.pn0))])) ∧ cnd (x2)
 ((x0 = x0) ∧ ((∀ w3 : Nat, (w3 < x0 → leR [AV.str (Pin.Pn.name (List.getD L w3 Pin.pn0)), AV.b8 32 (Pin.Pn.key (List.getD L w3 Pin.pn0)), AV.bool (Pin.Pn.gone (List.getD L w3 Pin.pn0))] [AV.str (Pin.Pn.name (List.getD L w3 Pin.pn0)), AV.b8 32 (Pin.Pn.key (List.getD L w3 Pin.pn0)), AV.bool (Pin.Pn.gone (List.getD L w3 Pin.pn0))])) ∧ ((AV.int IntKind.i64 x1 = AV.int IntKind.i64 x1) ∧ ((AV.int IntKind.i64 0 = AV.int IntKind.i64 ((w0 : Nat) : Int)) ∧ True))))))) ∧ (∀ w4 : Nat, ((Inv.upTo [AV.int IntKind.i64 x1] w4) ∧ (∀ w5 : Nat, (w5 < w4 → (Pin.pinOk L w5 = Bool.true))) → ite2 (ltI ((w4 : Nat) : Int) x1)
 -- THEN
 (cnd ((inB ((w4 : Nat) : Int) x0) && Bool.true)
 (ite2 (Bool.not (Pin.nameOk (Pin.Pn.name (List.getD L (Int.toNat ((w4 : Nat) : Int)) Pin.pn0))))
 -- THEN
 (K (AV.int IntKind.i64 9) [])
 -- ELSE
 (ite2 (ltI 0 ((w4 : Nat) : Int))
 -- THEN
 (cnd ((inB (wr IntKind.i64 (subI ((w4 : Nat) : Int) 1)) x0) && Bool.true)
 (ite2 (cond Bool.false Bool.true (cond Bool.true (Bool.not (Op.bytesLess (Pin.Pn.name (List.getD L (Int.toNat (wr IntKind.i64 (subI ((w4 : Nat) : Int) 1))) Pin.pn0)) (Pin.Pn.name (List.getD L (Int.toNat ((w4 : Nat) : Int)) Pin.pn0)))) Bool.false))
 -- THEN
 (K (AV.int IntKind.i64 9) [])
 -- ELSE
 ((∃ w6 : Nat, (((Inv.up w6) < (Inv.up w4)) ∧ ((Inv.upTo [AV.int IntKind.i64 x1] w6) ∧ (∀ w7 : Nat, (w7 < w6 → (Pin.pinOk L w7 = Bool.true))))) ∧ cnd (x2)
 ((x0 = x0) ∧ ((∀ w8 : Nat, (w8 < x0 → leR [AV.str (Pin.Pn.name (List.getD L w8 Pin.pn0)), AV.b8 32 (Pin.Pn.key (List.getD L w8 Pin.pn0)), AV.bool (Pin.Pn.gone (List.getD L w8 Pin.pn0))] [AV.str (Pin.Pn.name (List.getD L w8 Pin.pn0)), AV.b8 32 (Pin.Pn.key (List.getD L w8 Pin.pn0)), AV.bool (Pin.Pn.gone (List.getD L w8 Pin.pn0))])) ∧ cnd (x2)
 ((x0 = x0) ∧ ((∀ w9 : Nat, (w9 < x0 → leR [AV.str (Pin.Pn.name (List.getD L w9 Pin.pn0)), AV.b8 32 (Pin.Pn.key (List.getD L w9 Pin.pn0)), AV.bool (Pin.Pn.gone (List.getD L w9 Pin.pn0))] [AV.str (Pin.Pn.name (List.getD L w9 Pin.pn0)), AV.b8 32 (Pin.Pn.key (List.getD L w9 Pin.pn0)), AV.bool (Pin.Pn.gone (List.getD L w9 Pin.pn0))])) ∧ ((AV.int IntKind.i64 x1 = AV.int IntKind.i64 x1) ∧ ((AV.int IntKind.i64 (wr IntKind.i64 (((w4 : Nat) : Int) + 1)) = AV.int IntKind.i64 ((w6 : Nat) : Int)) ∧ True))))))))))
 -- ELSE
 ((∃ w10 : Nat, (((Inv.up w10) < (Inv.up w4)) ∧ ((Inv.upTo [AV.int IntKind.i64 x1] w10) ∧ (∀ w11 : Nat, (w11 < w10 → (Pin.pinOk L w11 = Bool.true))))) ∧ cnd (x2)
 ((x0 = x0) ∧ ((∀ w12 : Nat, (w12 < x0 → leR [AV.str (Pin.Pn.name (List.getD L w12 Pin.pn0)), AV.b8 32 (Pin.Pn.key (List.getD L w12 Pin.pn0)), AV.bool (Pin.Pn.gone (List.getD L w12 Pin.pn0))] [AV.str (Pin.Pn.name (List.getD L w12 Pin.pn0)), AV.b8 32 (Pin.Pn.key (List.getD L w12 Pin.pn0)), AV.bool (Pin.Pn.gone (List.getD L w12 Pin.pn0))])) ∧ cnd (x2)
 ((x0 = x0) ∧ ((∀ w13 : Nat, (w13 < x0 → leR [AV.str (Pin.Pn.name (List.getD L w13 Pin.pn0)), AV.b8 32 (Pin.Pn.key (List.getD L w13 Pin.pn0)), AV.bool (Pin.Pn.gone (List.getD L w13 Pin.pn0))] [AV.str (Pin.Pn.name (List.getD L w13 Pin.pn0)), AV.b8 32 (Pin.Pn.key (List.getD L w13 Pin.pn0)), AV.bool (Pin.Pn.gone (List.getD L w13 Pin.pn0))])) ∧ ((AV.int IntKind.i64 x1 = AV.int IntKind.i64 x1) ∧ ((AV.int IntKind.i64 (wr IntKind.i64 (((w4 : Nat) : Int) + 1)) = AV.int IntKind.i64 ((w10 : Nat) : Int)) ∧ True)))))))))))
 -- ELSE
 (K (AV.int IntKind.i64 0) []))))) := by kernel_rfl

theorem pfind_eq (full : Bool) (L : List Pn) (s : List UInt8) (K : AV → Heap → Prop) : walk Try.E R1 P1.C (fun f _ => bif f == 35 then searchL L s else .unroll 2) 5 29 [.vecr full 34 L.length (pcs L), .str s] K = (
 let x0 : Nat := (Pin.posP L s)
 let x1 : Nat := (List.length L)
 let x2 : Int := ((x1 : Nat) : Int)
 let x3 : Int := 18446744073709551616
(∃ w0 : Nat × Nat, (((Prod.fst w0) ≤ x0) ∧ ((x0 ≤ (Prod.snd w0)) ∧ ((Prod.snd w0) ≤ x1))) ∧ ((AV.int IntKind.i64 x2 = AV.int IntKind.i64 x2) ∧ ((AV.fn (Fn.func 36) [] [AV.ptr 0 0, AV.ptr 1 0] = AV.fn (Fn.func 36) [] [AV.ptr 0 0, AV.ptr 1 0]) ∧ ((AV.int IntKind.i64 0 = AV.int IntKind.i64 (((Prod.fst w0) : Nat) : Int)) ∧ ((AV.int IntKind.i64 x2 = AV.int IntKind.i64 (((Prod.snd w0) : Nat) : Int)) ∧ cnd ((full || (Bool.not full)) && Bool.true)
 ((x1 = x1) ∧ ((∀ w1 : Nat, (w1 < x1 → leR [AV.str (Pin.Pn.name (List.getD L w1 Pin.pn0)), AV.b8 32 (Pin.Pn.key (List.getD L w1 Pin.pn0)), AV.bool (Pin.Pn.gone (List.getD L w1 Pin.pn0))] [AV.str (Pin.Pn.name (List.getD L w1 Pin.pn0)), AV.b8 32 (Pin.Pn.key (List.getD L w1 Pin.pn0)), AV.bool (Pin.Pn.gone (List.getD L w1 Pin.pn0))])) ∧ ((AV.str s = AV.str s) ∧ True)))))))) ∧ (∀ w2 : Nat × Nat, (((Prod.fst w2) ≤ x0) ∧ ((x0 ≤ (Prod.snd w2)) ∧ ((Prod.snd w2) ≤ x1)) → ite2 (ltI (((Prod.fst w2) : Nat) : Int) (((Prod.snd w2) : Nat) : Int))
 -- THEN
 (cnd ((inB (wr IntKind.i64 (((UInt64.toNat (shr64 (UInt64.ofNat (Int.toNat ((wr IntKind.i64 ((((Prod.fst w2) : Nat) : Int) + (((Prod.snd w2) : Nat) : Int))) % x3))) 1)) : Nat) : Int)) x1) && Bool.true)
 (ite2 (Bool.not (Bool.not (Op.bytesLess (Pin.Pn.name (List.getD L (Int.toNat (wr IntKind.i64 (((UInt64.toNat (shr64 (UInt64.ofNat (Int.toNat ((wr IntKind.i64 ((((Prod.fst w2) : Nat) : Int) + (((Prod.snd w2) : Nat) : Int))) % x3))) (Int.toNat (((UInt64.toNat (UInt64.ofNat (Int.toNat 1))) : Nat) : Int)))) : Nat) : Int))) Pin.pn0)) s)))
 -- THEN
 ((∃ w3 : Nat × Nat, ((((fun x => (Prod.snd x) - (Prod.fst x)) w3) < ((fun x => (Prod.snd x) - (Prod.fst x)) w2)) ∧ (((Prod.fst w3) ≤ x0) ∧ ((x0 ≤ (Prod.snd w3)) ∧ ((Prod.snd w3) ≤ x1)))) ∧ ((AV.int IntKind.i64 x2 = AV.int IntKind.i64 x2) ∧ ((AV.fn (Fn.func 36) [] [AV.ptr 0 0, AV.ptr 1 0] = AV.fn (Fn.func 36) [] [AV.ptr 0 0, AV.ptr 1 0]) ∧ ((AV.int IntKind.i64 (wr IntKind.i64 ((wr IntKind.i64 (((UInt64.toNat (shr64 (UInt64.ofNat (Int.toNat ((wr IntKind.i64 ((((Prod.fst w2) : Nat) : Int) + (((Prod.snd w2) : Nat) : Int))) % x3))) 1)) : Nat) : Int)) + 1)) = AV.int IntKind.i64 (((Prod.fst w3) : Nat) : Int)) ∧ ((AV.int IntKind.i64 (((Prod.snd w2) : Nat) : Int) = AV.int IntKind.i64 (((Prod.snd w3) : Nat) : Int)) ∧ cnd ((full || (Bool.not full)) && Bool.true)
 ((x1 = x1) ∧ ((∀ w4 : Nat, (w4 < x1 → leR [AV.str (Pin.Pn.name (List.getD L w4 Pin.pn0)), AV.b8 32 (Pin.Pn.key (List.getD L w4 Pin.pn0)), AV.bool (Pin.Pn.gone (List.getD L w4 Pin.pn0))] [AV.str (Pin.Pn.name (List.getD L w4 Pin.pn0)), AV.b8 32 (Pin.Pn.key (List.getD L w4 Pin.pn0)), AV.bool (Pin.Pn.gone (List.getD L w4 Pin.pn0))])) ∧ ((AV.str s = AV.str s) ∧ True)))))))))
 -- ELSE
 ((∃ w5 : Nat × Nat, ((((fun x => (Prod.snd x) - (Prod.fst x)) w5) < ((fun x => (Prod.snd x) - (Prod.fst x)) w2)) ∧ (((Prod.fst w5) ≤ x0) ∧ ((x0 ≤ (Prod.snd w5)) ∧ ((Prod.snd w5) ≤ x1)))) ∧ ((AV.int IntKind.i64 x2 = AV.int IntKind.i64 x2) ∧ ((AV.fn (Fn.func 36) [] [AV.ptr 0 0, AV.ptr 1 0] = AV.fn (Fn.func 36) [] [AV.ptr 0 0, AV.ptr 1 0]) ∧ ((AV.int IntKind.i64 (((Prod.fst w2) : Nat) : Int) = AV.int IntKind.i64 (((Prod.fst w5) : Nat) : Int)) ∧ ((AV.int IntKind.i64 (wr IntKind.i64 (((UInt64.toNat (shr64 (UInt64.ofNat (Int.toNat ((wr IntKind.i64 ((((Prod.fst w2) : Nat) : Int) + (((Prod.snd w2) : Nat) : Int))) % x3))) 1)) : Nat) : Int)) = AV.int IntKind.i64 (((Prod.snd w5) : Nat) : Int)) ∧ cnd ((full || (Bool.not full)) && Bool.true)
 ((x1 = x1) ∧ ((∀ w6 : Nat, (w6 < x1 → leR [AV.str (Pin.Pn.name (List.getD L w6 Pin.pn0)), AV.b8 32 (Pin.Pn.key (List.getD L w6 Pin.pn0)), AV.bool (Pin.Pn.gone (List.getD L w6 Pin.pn0))] [AV.str (Pin.Pn.name (List.getD L w6 Pin.pn0)), AV.b8 32 (Pin.Pn.key (List.getD L w6 Pin.pn0)), AV.bool (Pin.Pn.gone (List.getD L w6 Pin.pn0))])) ∧ ((AV.str s = AV.str s) ∧ True)))))))))))
 -- ELSE
 (ite2 (ltI (((Prod.fst w2) : Nat) : Int) x2)
 -- THEN
 (cnd ((inB (((Prod.fst w2) : Nat) : Int) x1) && Bool.true)
 (K (AV.tup [AV.int IntKind.i64 (((Prod.fst w2) : Nat) : Int), AV.bool (cond Bool.true ((Pin.Pn.name (List.getD L (Int.toNat (((Prod.fst w2) : Nat) : Int)) Pin.pn0)) == s) Bool.false)]) []))
 -- ELSE
 (K (AV.tup [AV.int IntKind.i64 (((Prod.fst w2) : Nat) : Int), AV.bool Bool.false]) []))))) := by kernel_rfl

end Go.Proofs.Ytfpladpbnbpehaa
