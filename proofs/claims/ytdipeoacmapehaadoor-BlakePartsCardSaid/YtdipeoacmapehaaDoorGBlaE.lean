import Derived.Test.YtdipeoacmapehaaDoorBlaF
set_option linter.unusedSimpArgs false
set_option linter.unusedVariables false
namespace Go.Proofs.YtdipeoacmapehaaDoor
open Go Go.V Go.Cha Go.Bla
set_option maxHeartbeats 0
set_option maxRecDepth 100000

theorem badd_eq (s : BS) (full : Bool) (b : List UInt8) (K : AV → Heap → Prop) : walk Tryd.E RS B2.C (fun _ l => baddL s b) 5 8 [.agg [.w32 8 s.h, .b8 64 s.held, .int .i64 ((s.n : Nat) : Int), .int .i64 ((s.len : Nat) : Int)], .vec8 full b] K = (
 let x0 : List UInt8 := (Bla.BS.held s)
 let x1 : Int := (((Bla.BS.n s) : Nat) : Int)
 let x2 : Int := (((Bla.BS.len s) : Nat) : Int)
 let x3 : Nat := (List.length b)
 let x4 : Int := ((x3 : Nat) : Int)
 let x5 : List UInt8 := (List.replicate 64 0)
 cnd (Bla.okS x0 x1 x2)
 (ite2 (ltI (wr IntKind.i64 (subI 1073741824 x2)) x4)
 -- THEN
 (K (AV.tup [AV.agg [AV.w32 8 [0, 0, 0, 0, 0, 0, 0, 0], AV.b8 64 x5, AV.int IntKind.i64 0, AV.int IntKind.i64 0], AV.int IntKind.i64 1]) [])
 -- ELSE
 ((∃ w0 : Nat, (Inv.upTo [AV.int IntKind.i64 x4] w0) ∧ ((AV.vec8 full b = AV.vec8 full b) ∧ ((AV.int IntKind.i64 x4 = AV.int IntKind.i64 x4) ∧ ((AV.int IntKind.i64 0 = AV.int IntKind.i64 ((w0 : Nat) : Int)) ∧ ((AV.w32 8 (Bla.BS.h s) = AV.w32 8 (Bla.BS.h (Bla.addB s (List.take w0 b)))) ∧ ((AV.b8 64 x0 = AV.b8 64 (Bla.BS.held (Bla.addB s (List.take w0 b)))) ∧ ((AV.int IntKind.i64 x1 = AV.int IntKind.i64 (((Bla.BS.n (Bla.addB s (List.take w0 b))) : Nat) : Int)) ∧ ((AV.int IntKind.i64 x2 = AV.int IntKind.i64 (((Bla.BS.len (Bla.addB s (List.take w0 b))) : Nat) : Int)) ∧ ((AV.w32 8 [0, 0, 0, 0, 0, 0, 0, 0] = AV.w32 8 [0, 0, 0, 0, 0, 0, 0, 0]) ∧ ((AV.b8 64 x5 = AV.b8 64 x5) ∧ ((AV.int IntKind.i64 0 = AV.int IntKind.i64 0) ∧ ((AV.int IntKind.i64 0 = AV.int IntKind.i64 0) ∧ True)))))))))))) ∧ (∀ w1 : Nat, (Inv.upTo [AV.int IntKind.i64 x4] w1 → ite2 (ltI ((w1 : Nat) : Int) x4)
 -- THEN
 (cnd ((inB ((w1 : Nat) : Int) x3) && Bool.true)
 (cnd (leB (0 + x3) x3)
 (ite2 ((((Bla.BS.n (Bla.addB s (List.take w1 b))) : Nat) : Int) == 64)
 -- THEN
 ((∃ w2 : Nat, (((Inv.up w2) < (Inv.up w1)) ∧ (Inv.upTo [AV.int IntKind.i64 x4] w2)) ∧ ((AV.vec8 full b = AV.vec8 full b) ∧ ((AV.int IntKind.i64 x4 = AV.int IntKind.i64 x4) ∧ ((AV.int IntKind.i64 (wr IntKind.i64 (((w1 : Nat) : Int) + 1)) = AV.int IntKind.i64 ((w2 : Nat) : Int)) ∧ ((AV.w32 8 (Bla.squeezeS (Bla.BS.h (Bla.addB s (List.take w1 b))) (Bla.BS.held (Bla.addB s (List.take w1 b))) (((Bla.BS.len (Bla.addB s (List.take w1 b))) : Nat) : Int) Bool.false) = AV.w32 8 (Bla.BS.h (Bla.addB s (List.take w2 b)))) ∧ ((AV.b8 64 (List.set x5 0 (List.getD b (ofs 0 ((w1 : Nat) : Int)) 0)) = AV.b8 64 (Bla.BS.held (Bla.addB s (List.take w2 b)))) ∧ ((AV.int IntKind.i64 1 = AV.int IntKind.i64 (((Bla.BS.n (Bla.addB s (List.take w2 b))) : Nat) : Int)) ∧ ((AV.int IntKind.i64 (wr IntKind.i64 ((((Bla.BS.len (Bla.addB s (List.take w1 b))) : Nat) : Int) + 1)) = AV.int IntKind.i64 (((Bla.BS.len (Bla.addB s (List.take w2 b))) : Nat) : Int)) ∧ ((AV.w32 8 [0, 0, 0, 0, 0, 0, 0, 0] = AV.w32 8 [0, 0, 0, 0, 0, 0, 0, 0]) ∧ ((AV.b8 64 x5 = AV.b8 64 x5) ∧ ((AV.int IntKind.i64 0 = AV.int IntKind.i64 0) ∧ ((AV.int IntKind.i64 0 = AV.int IntKind.i64 0) ∧ True)))))))))))))
 -- ELSE
 (cnd (inB (((Bla.BS.n (Bla.addB s (List.take w1 b))) : Nat) : Int) 64)
 ((∃ w3 : Nat, (((Inv.up w3) < (Inv.up w1)) ∧ (Inv.upTo [AV.int IntKind.i64 x4] w3)) ∧ ((AV.vec8 full b = AV.vec8 full b) ∧ ((AV.int IntKind.i64 x4 = AV.int IntKind.i64 x4) ∧ ((AV.int IntKind.i64 (wr IntKind.i64 (((w1 : Nat) : Int) + 1)) = AV.int IntKind.i64 ((w3 : Nat) : Int)) ∧ ((AV.w32 8 (Bla.BS.h (Bla.addB s (List.take w1 b))) = AV.w32 8 (Bla.BS.h (Bla.addB s (List.take w3 b)))) ∧ ((AV.b8 64 (List.set (Bla.BS.held (Bla.addB s (List.take w1 b))) (Int.toNat (((Bla.BS.n (Bla.addB s (List.take w1 b))) : Nat) : Int)) (List.getD b (ofs 0 ((w1 : Nat) : Int)) 0)) = AV.b8 64 (Bla.BS.held (Bla.addB s (List.take w3 b)))) ∧ ((AV.int IntKind.i64 (wr IntKind.i64 ((((Bla.BS.n (Bla.addB s (List.take w1 b))) : Nat) : Int) + 1)) = AV.int IntKind.i64 (((Bla.BS.n (Bla.addB s (List.take w3 b))) : Nat) : Int)) ∧ ((AV.int IntKind.i64 (wr IntKind.i64 ((((Bla.BS.len (Bla.addB s (List.take w1 b))) : Nat) : Int) + 1)) = AV.int IntKind.i64 (((Bla.BS.len (Bla.addB s (List.take w3 b))) : Nat) : Int)) ∧ ((AV.w32 8 [0, 0, 0, 0, 0, 0, 0, 0] = AV.w32 8 [0, 0, 0, 0, 0, 0, 0, 0]) ∧ ((AV.b8 64 x5 = AV.b8 64 x5) ∧ ((AV.int IntKind.i64 0 = AV.int IntKind.i64 0) ∧ ((AV.int IntKind.i64 0 = AV.int IntKind.i64 0) ∧ True)))))))))))))))))
 -- ELSE
 (K (AV.tup [AV.agg [AV.w32 8 (Bla.BS.h (Bla.addB s (List.take w1 b))), AV.b8 64 (Bla.BS.held (Bla.addB s (List.take w1 b))), AV.int IntKind.i64 (((Bla.BS.n (Bla.addB s (List.take w1 b))) : Nat) : Int), AV.int IntKind.i64 (((Bla.BS.len (Bla.addB s (List.take w1 b))) : Nat) : Int)], AV.int IntKind.i64 0]) [])))))) := by kernel_rfl

end Go.Proofs.YtdipeoacmapehaaDoor
