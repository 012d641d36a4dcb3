import Derived.Test.YtdipeoacmapehaaDoorBlaC
import Derived.Test.YtdipeoacmapehaaDoorWZ
import Derived.Test.YtdipeoacmapehaaDoorWU
import Derived.Test.YtdipeoacmapehaaDoorBlb
set_option linter.unusedSimpArgs false
set_option linter.unusedVariables false
namespace Go.Proofs.YtdipeoacmapehaaDoor
open Go Go.V Go.Cha Go.Bla
set_option maxHeartbeats 0
set_option maxRecDepth 100000

theorem bcheck_eq (h : List UInt32) (held : List UInt8) (n len : Int) (K : AV → Heap → Prop) : walk Tryd.E (ROps.frz Tryd.E) B1.C (fun _ l => bif l == 4 then Inv.count [47, 48] 48 49 else .unroll 17) 5 21 [.agg [.w32 8 h, .b8 64 held, .int .i64 n, .int .i64 len]] K = (
 let x0 : List UInt8 := (sliceL (Option.some n) Option.none held)
 let x1 : Nat := (List.length x0)
 let x2 : Int := ((x1 : Nat) : Int)
 let x3 : List (Nat × Nat) := [((0 + 8) + (loN (Option.some n)), (0 + 8) + (hiN 64 Option.none))]
 ite2 (ltI n 0)
 -- THEN
 (K (AV.int IntKind.i64 9) [])
 -- ELSE
 (ite2 (cond Bool.false Bool.true (ltI 64 n))
 -- THEN
 (K (AV.int IntKind.i64 9) [])
 -- ELSE
 (ite2 (cond Bool.false Bool.true (ltI len n))
 -- THEN
 (K (AV.int IntKind.i64 9) [])
 -- ELSE
 (ite2 (cond Bool.false Bool.true (ltI 1073741824 len))
 -- THEN
 (K (AV.int IntKind.i64 9) [])
 -- ELSE
 (ite2 (cond Bool.false Bool.true ((Int.tmod (wr IntKind.i64 (subI len n)) 64) != 0))
 -- THEN
 (K (AV.int IntKind.i64 9) [])
 -- ELSE
 (ite2 (n == 0)
 -- THEN
 (ite2 (cond Bool.false Bool.true (cond Bool.true (ltI 0 len) Bool.false))
 -- THEN
 (K (AV.int IntKind.i64 9) [])
 -- ELSE
 (cnd (Bool.true && (sliceOk (Option.some n) Option.none 64))
 ((∃ w0 : Nat, (Inv.upTo [AV.int IntKind.i64 x2] w0) ∧ ((AV.vec8 Bool.false x0 = AV.vec8 Bool.false x0) ∧ ((AV.int IntKind.i64 x2 = AV.int IntKind.i64 x2) ∧ ((AV.int IntKind.i64 0 = AV.int IntKind.i64 ((w0 : Nat) : Int)) ∧ cnd (eqF x3 x3)
 ((AV.w32 8 h = AV.w32 8 h) ∧ ((AV.b8 64 held = AV.b8 64 held) ∧ ((AV.int IntKind.i64 n = AV.int IntKind.i64 n) ∧ ((AV.int IntKind.i64 len = AV.int IntKind.i64 len) ∧ True)))))))) ∧ (∀ w1 : Nat, (Inv.upTo [AV.int IntKind.i64 x2] w1 → ite2 (ltI ((w1 : Nat) : Int) x2)
 -- THEN
 (cnd ((inB ((w1 : Nat) : Int) x1) && Bool.true)
 (cnd (leB (0 + x1) x1)
 (ite2 ((((UInt8.toNat (List.getD x0 (ofs 0 ((w1 : Nat) : Int)) 0)) : Nat) : Int) != 0)
 -- THEN
 (K (AV.int IntKind.i64 9) [])
 -- ELSE
 ((∃ w2 : Nat, (((Inv.up w2) < (Inv.up w1)) ∧ (Inv.upTo [AV.int IntKind.i64 x2] w2)) ∧ ((AV.vec8 Bool.false x0 = AV.vec8 Bool.false x0) ∧ ((AV.int IntKind.i64 x2 = AV.int IntKind.i64 x2) ∧ ((AV.int IntKind.i64 (wr IntKind.i64 (((w1 : Nat) : Int) + 1)) = AV.int IntKind.i64 ((w2 : Nat) : Int)) ∧ cnd (eqF x3 x3)
 ((AV.w32 8 h = AV.w32 8 h) ∧ ((AV.b8 64 held = AV.b8 64 held) ∧ ((AV.int IntKind.i64 n = AV.int IntKind.i64 n) ∧ ((AV.int IntKind.i64 len = AV.int IntKind.i64 len) ∧ True))))))))))))
 -- ELSE
 (K (AV.int IntKind.i64 0) []))))))
 -- ELSE
 (cnd (Bool.true && (sliceOk (Option.some n) Option.none 64))
 ((∃ w3 : Nat, (Inv.upTo [AV.int IntKind.i64 x2] w3) ∧ ((AV.vec8 Bool.false x0 = AV.vec8 Bool.false x0) ∧ ((AV.int IntKind.i64 x2 = AV.int IntKind.i64 x2) ∧ ((AV.int IntKind.i64 0 = AV.int IntKind.i64 ((w3 : Nat) : Int)) ∧ cnd (eqF x3 x3)
 ((AV.w32 8 h = AV.w32 8 h) ∧ ((AV.b8 64 held = AV.b8 64 held) ∧ ((AV.int IntKind.i64 n = AV.int IntKind.i64 n) ∧ ((AV.int IntKind.i64 len = AV.int IntKind.i64 len) ∧ True)))))))) ∧ (∀ w4 : Nat, (Inv.upTo [AV.int IntKind.i64 x2] w4 → ite2 (ltI ((w4 : Nat) : Int) x2)
 -- THEN
 (cnd ((inB ((w4 : Nat) : Int) x1) && Bool.true)
 (cnd (leB (0 + x1) x1)
 (ite2 ((((UInt8.toNat (List.getD x0 (ofs 0 ((w4 : Nat) : Int)) 0)) : Nat) : Int) != 0)
 -- THEN
 (K (AV.int IntKind.i64 9) [])
 -- ELSE
 ((∃ w5 : Nat, (((Inv.up w5) < (Inv.up w4)) ∧ (Inv.upTo [AV.int IntKind.i64 x2] w5)) ∧ ((AV.vec8 Bool.false x0 = AV.vec8 Bool.false x0) ∧ ((AV.int IntKind.i64 x2 = AV.int IntKind.i64 x2) ∧ ((AV.int IntKind.i64 (wr IntKind.i64 (((w4 : Nat) : Int) + 1)) = AV.int IntKind.i64 ((w5 : Nat) : Int)) ∧ cnd (eqF x3 x3)
 ((AV.w32 8 h = AV.w32 8 h) ∧ ((AV.b8 64 held = AV.b8 64 held) ∧ ((AV.int IntKind.i64 n = AV.int IntKind.i64 n) ∧ ((AV.int IntKind.i64 len = AV.int IntKind.i64 len) ∧ True))))))))))))
 -- ELSE
 (K (AV.int IntKind.i64 0) []))))))))))) := by kernel_rfl

end Go.Proofs.YtdipeoacmapehaaDoor
