import Derived.Test.YtfpladpbnbpehaaFrmE
set_option linter.unusedSimpArgs false
set_option linter.unusedVariables false
namespace Go.Proofs.Ytfpladpbnbpehaa
open Go Go.V Go.Frm
set_option maxHeartbeats 0
set_option maxRecDepth 100000

theorem fsame_eq (fa fb : Bool) (A B : List Fr) (K : AV → Heap → Prop) : walk Try.E R0 F2.C (fun _ _ => sameL A B) 5 14 [.vecr fa 3 A.length (frs A), .vecr fb 3 B.length (frs B)] K = (
 let x0 : Nat := (List.length A)
 let x1 : Int := ((x0 : Nat) : Int)
 let x2 : Nat := (List.length B)
 let x3 : Bool := (fa || (Bool.not fa)) && Bool.true
 let x4 : Bool := (fb || (Bool.not fb)) && Bool.true
 ite2 (x1 != ((x2 : Nat) : Int))
 -- THEN
 (K (AV.bool Bool.false) [])
 -- ELSE
 ((∃ w0 : Nat, ((Inv.upTo [AV.int IntKind.i64 x1] w0) ∧ (∀ w1 : Nat, (w1 < w0 → (List.getD A w1 Frm.fr0 = List.getD B w1 Frm.fr0)))) ∧ cnd (x3)
 ((x0 = x0) ∧ ((∀ w2 : Nat, (w2 < x0 → leR [AV.int IntKind.i64 (Frm.Fr.kind (List.getD A w2 Frm.fr0)), AV.int IntKind.i64 (Frm.Fr.id (List.getD A w2 Frm.fr0)), AV.vec8 Bool.false (Frm.Fr.body (List.getD A w2 Frm.fr0))] [AV.int IntKind.i64 (Frm.Fr.kind (List.getD A w2 Frm.fr0)), AV.int IntKind.i64 (Frm.Fr.id (List.getD A w2 Frm.fr0)), AV.vec8 Bool.false (Frm.Fr.body (List.getD A w2 Frm.fr0))])) ∧ cnd (x4)
 ((x2 = x2) ∧ ((∀ w3 : Nat, (w3 < x2 → leR [AV.int IntKind.i64 (Frm.Fr.kind (List.getD B w3 Frm.fr0)), AV.int IntKind.i64 (Frm.Fr.id (List.getD B w3 Frm.fr0)), AV.vec8 Bool.false (Frm.Fr.body (List.getD B w3 Frm.fr0))] [AV.int IntKind.i64 (Frm.Fr.kind (List.getD B w3 Frm.fr0)), AV.int IntKind.i64 (Frm.Fr.id (List.getD B w3 Frm.fr0)), AV.vec8 Bool.false (Frm.Fr.body (List.getD B w3 Frm.fr0))])) ∧ ((AV.int IntKind.i64 x1 = AV.int IntKind.i64 x1) ∧ ((AV.int IntKind.i64 0 = AV.int IntKind.i64 ((w0 : Nat) : Int)) ∧ True))))))) ∧ (∀ w4 : Nat, ((Inv.upTo [AV.int IntKind.i64 x1] w4) ∧ (∀ w5 : Nat, (w5 < w4 → (List.getD A w5 Frm.fr0 = List.getD B w5 Frm.fr0))) → ite2 (ltI ((w4 : Nat) : Int) x1)
 -- THEN
 (cnd ((inB ((w4 : Nat) : Int) x0) && Bool.true)
 (cnd ((inB ((w4 : Nat) : Int) x2) && Bool.true)
 (ite2 ((Frm.Fr.kind (List.getD A (Int.toNat ((w4 : Nat) : Int)) Frm.fr0)) != (Frm.Fr.kind (List.getD B (Int.toNat ((w4 : Nat) : Int)) Frm.fr0)))
 -- THEN
 (K (AV.bool Bool.false) [])
 -- ELSE
 (cnd ((inB ((w4 : Nat) : Int) x0) && Bool.true)
 (cnd ((inB ((w4 : Nat) : Int) x2) && Bool.true)
 (ite2 (cond Bool.false Bool.true ((Frm.Fr.id (List.getD A (Int.toNat ((w4 : Nat) : Int)) Frm.fr0)) != (Frm.Fr.id (List.getD B (Int.toNat ((w4 : Nat) : Int)) Frm.fr0))))
 -- THEN
 (K (AV.bool Bool.false) [])
 -- ELSE
 (cnd ((inB ((w4 : Nat) : Int) x0) && Bool.true)
 (cnd ((inB ((w4 : Nat) : Int) x2) && Bool.true)
 (ite2 (cond Bool.false Bool.true ((Frm.Fr.body (List.getD A (Int.toNat ((w4 : Nat) : Int)) Frm.fr0)) != (Frm.Fr.body (List.getD B (Int.toNat ((w4 : Nat) : Int)) Frm.fr0))))
 -- THEN
 (K (AV.bool Bool.false) [])
 -- ELSE
 ((∃ w6 : Nat, (((Inv.up w6) < (Inv.up w4)) ∧ ((Inv.upTo [AV.int IntKind.i64 x1] w6) ∧ (∀ w7 : Nat, (w7 < w6 → (List.getD A w7 Frm.fr0 = List.getD B w7 Frm.fr0))))) ∧ cnd (x3)
 ((x0 = x0) ∧ ((∀ w8 : Nat, (w8 < x0 → leR [AV.int IntKind.i64 (Frm.Fr.kind (List.getD A w8 Frm.fr0)), AV.int IntKind.i64 (Frm.Fr.id (List.getD A w8 Frm.fr0)), AV.vec8 Bool.false (Frm.Fr.body (List.getD A w8 Frm.fr0))] [AV.int IntKind.i64 (Frm.Fr.kind (List.getD A w8 Frm.fr0)), AV.int IntKind.i64 (Frm.Fr.id (List.getD A w8 Frm.fr0)), AV.vec8 Bool.false (Frm.Fr.body (List.getD A w8 Frm.fr0))])) ∧ cnd (x4)
 ((x2 = x2) ∧ ((∀ w9 : Nat, (w9 < x2 → leR [AV.int IntKind.i64 (Frm.Fr.kind (List.getD B w9 Frm.fr0)), AV.int IntKind.i64 (Frm.Fr.id (List.getD B w9 Frm.fr0)), AV.vec8 Bool.false (Frm.Fr.body (List.getD B w9 Frm.fr0))] [AV.int IntKind.i64 (Frm.Fr.kind (List.getD B w9 Frm.fr0)), AV.int IntKind.i64 (Frm.Fr.id (List.getD B w9 Frm.fr0)), AV.vec8 Bool.false (Frm.Fr.body (List.getD B w9 Frm.fr0))])) ∧ ((AV.int IntKind.i64 x1 = AV.int IntKind.i64 x1) ∧ ((AV.int IntKind.i64 (wr IntKind.i64 (((w4 : Nat) : Int) + 1)) = AV.int IntKind.i64 ((w6 : Nat) : Int)) ∧ True)))))))))))))))))
 -- ELSE
 (K (AV.bool Bool.true) []))))) := by kernel_rfl

end Go.Proofs.Ytfpladpbnbpehaa
