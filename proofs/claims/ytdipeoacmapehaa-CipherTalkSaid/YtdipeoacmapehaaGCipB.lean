import Derived.Test.YtdipeoacmapehaaCipA
set_option linter.unusedSimpArgs false
set_option linter.unusedVariables false
namespace Go.Proofs.Ytdipeoacmapehaa
open Go Go.V Go.Fld Go.Pol Go.Cha
set_option maxHeartbeats 0
set_option maxRecDepth 100000

theorem csealT_eq (k ad b : List UInt8) (n : UInt64) (fa fb : Bool) (K : AV → Heap → Prop) : walk Try.E RS C1.C (fun _ _ => .unroll 17) 5 7 [.agg [.bool true, .b8 32 k, .u64 n], .vec8 fa ad, .vec8 fb b] K = (
 let x0 : Nat := (List.length b)
 ite2 ((((UInt64.toNat n) : Nat) : Int) == 18446744073709551615)
 -- THEN
 (K (AV.tup [AV.agg [AV.bool Bool.false, AV.b8 32 [0, 0, 0, 0, 0, 0, 0, 0, 0, 0, 0, 0, 0, 0, 0, 0, 0, 0, 0, 0, 0, 0, 0, 0, 0, 0, 0, 0, 0, 0, 0, 0], AV.u64 0], AV.vec8 Bool.true [], AV.int IntKind.i64 11]) [])
 -- ELSE
 (cnd ((Bool.not (ltB 200 (List.length ad))) && (Bool.not (ltB 800 x0)))
 (K (AV.tup [AV.agg [AV.bool Bool.true, AV.b8 32 k, AV.u64 (n + 1)], AV.sl 0 0 1 (x0 + 16), AV.int IntKind.i64 0]) [Ent.grow8 (sealS k (cnonceS n) ad b) []]))) := by kernel_rfl

theorem csealF_eq (k ad b : List UInt8) (n : UInt64) (fa fb : Bool) (K : AV → Heap → Prop) : walk Try.E RS C1.C (fun _ _ => .unroll 17) 5 7 [.agg [.bool false, .b8 32 k, .u64 n], .vec8 fa ad, .vec8 fb b] K = (
 let x0 : Nat := (List.length b)
 ite2 (nilC k n)
 -- THEN
 (ite2 (ltI 800 ((x0 : Nat) : Int))
 -- THEN
 (K (AV.tup [AV.agg [AV.bool Bool.false, AV.b8 32 [0, 0, 0, 0, 0, 0, 0, 0, 0, 0, 0, 0, 0, 0, 0, 0, 0, 0, 0, 0, 0, 0, 0, 0, 0, 0, 0, 0, 0, 0, 0, 0], AV.u64 0], AV.vec8 Bool.true [], AV.int IntKind.i64 1]) [])
 -- ELSE
 (cnd (leB (x0 * 1) 140737488355328)
 (K (AV.tup [AV.agg [AV.bool Bool.false, AV.b8 32 k, AV.u64 n], AV.sl 0 0 1 x0, AV.int IntKind.i64 0]) [Ent.grow8 b []])))
 -- ELSE
 (K (AV.tup [AV.agg [AV.bool Bool.false, AV.b8 32 [0, 0, 0, 0, 0, 0, 0, 0, 0, 0, 0, 0, 0, 0, 0, 0, 0, 0, 0, 0, 0, 0, 0, 0, 0, 0, 0, 0, 0, 0, 0, 0], AV.u64 0], AV.vec8 Bool.true [], AV.int IntKind.i64 9]) [])) := by kernel_rfl

theorem copenT_eq (k ad b : List UInt8) (n : UInt64) (fa fb : Bool) (K : AV → Heap → Prop) : walk Try.E RS C1.C (fun _ _ => .unroll 17) 5 11 [.agg [.bool true, .b8 32 k, .u64 n], .vec8 fa ad, .vec8 fb b] K = (
 let x0 : Nat := (List.length b)
 ite2 ((((UInt64.toNat n) : Nat) : Int) == 18446744073709551615)
 -- THEN
 (K (AV.tup [AV.agg [AV.bool Bool.false, AV.b8 32 [0, 0, 0, 0, 0, 0, 0, 0, 0, 0, 0, 0, 0, 0, 0, 0, 0, 0, 0, 0, 0, 0, 0, 0, 0, 0, 0, 0, 0, 0, 0, 0], AV.u64 0], AV.vec8 Bool.true [], AV.int IntKind.i64 11]) [])
 -- ELSE
 (cnd (leB x0 1000000000)
 (ite2 ((ltB 200 (List.length ad)) || (ltB 816 x0))
 -- THEN
 (K (AV.tup [AV.agg [AV.bool Bool.false, AV.b8 32 [0, 0, 0, 0, 0, 0, 0, 0, 0, 0, 0, 0, 0, 0, 0, 0, 0, 0, 0, 0, 0, 0, 0, 0, 0, 0, 0, 0, 0, 0, 0, 0], AV.u64 0], AV.vec8 Bool.true [], AV.int IntKind.i64 1]) [])
 -- ELSE
 (ite2 (ltB x0 16)
 -- THEN
 (K (AV.tup [AV.agg [AV.bool Bool.false, AV.b8 32 [0, 0, 0, 0, 0, 0, 0, 0, 0, 0, 0, 0, 0, 0, 0, 0, 0, 0, 0, 0, 0, 0, 0, 0, 0, 0, 0, 0, 0, 0, 0, 0], AV.u64 0], AV.vec8 Bool.true [], AV.int IntKind.i64 4]) [])
 -- ELSE
 (ite2 (badS k (cnonceS n) ad b)
 -- THEN
 (K (AV.tup [AV.agg [AV.bool Bool.false, AV.b8 32 [0, 0, 0, 0, 0, 0, 0, 0, 0, 0, 0, 0, 0, 0, 0, 0, 0, 0, 0, 0, 0, 0, 0, 0, 0, 0, 0, 0, 0, 0, 0, 0], AV.u64 0], AV.vec8 Bool.true [], AV.int IntKind.i64 10]) [])
 -- ELSE
 (K (AV.tup [AV.agg [AV.bool Bool.true, AV.b8 32 k, AV.u64 (n + 1)], AV.sl 0 0 1 (x0 - 16), AV.int IntKind.i64 0]) [Ent.grow8 (plainS k (cnonceS n) b) []])))))) := by kernel_rfl

theorem copenF_eq (k ad b : List UInt8) (n : UInt64) (fa fb : Bool) (K : AV → Heap → Prop) : walk Try.E RS C1.C (fun _ _ => .unroll 17) 5 11 [.agg [.bool false, .b8 32 k, .u64 n], .vec8 fa ad, .vec8 fb b] K = (
 let x0 : Nat := (List.length b)
 ite2 (nilC k n)
 -- THEN
 (ite2 (ltI 800 ((x0 : Nat) : Int))
 -- THEN
 (K (AV.tup [AV.agg [AV.bool Bool.false, AV.b8 32 [0, 0, 0, 0, 0, 0, 0, 0, 0, 0, 0, 0, 0, 0, 0, 0, 0, 0, 0, 0, 0, 0, 0, 0, 0, 0, 0, 0, 0, 0, 0, 0], AV.u64 0], AV.vec8 Bool.true [], AV.int IntKind.i64 1]) [])
 -- ELSE
 (cnd (leB (x0 * 1) 140737488355328)
 (K (AV.tup [AV.agg [AV.bool Bool.false, AV.b8 32 k, AV.u64 n], AV.sl 0 0 1 x0, AV.int IntKind.i64 0]) [Ent.grow8 b []])))
 -- ELSE
 (K (AV.tup [AV.agg [AV.bool Bool.false, AV.b8 32 [0, 0, 0, 0, 0, 0, 0, 0, 0, 0, 0, 0, 0, 0, 0, 0, 0, 0, 0, 0, 0, 0, 0, 0, 0, 0, 0, 0, 0, 0, 0, 0], AV.u64 0], AV.vec8 Bool.true [], AV.int IntKind.i64 9]) [])) := by kernel_rfl

end Go.Proofs.Ytdipeoacmapehaa
