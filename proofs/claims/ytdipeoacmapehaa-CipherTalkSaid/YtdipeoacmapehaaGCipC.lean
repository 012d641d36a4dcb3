import Derived.Test.YtdipeoacmapehaaCipC
set_option linter.unusedSimpArgs false
set_option linter.unusedVariables false
namespace Go.Proofs.Ytdipeoacmapehaa
open Go Go.V Go.Fld Go.Pol Go.Cha
set_option maxHeartbeats 0
set_option maxRecDepth 100000

theorem cends0_eq (k text : List UInt8) (n : Int) (K : AV → Heap → Prop) : walk Try.E RS (CK 0 (.inl rfl)).C (fun _ _ => .unroll 17) 5 3 [.b8 32 k, .vec8 false text, .int .i64 n] K = (
 let x0 : Nat := (List.length text)
 let x1 : Int := ((x0 : Nat) : Int)
 let x2 : List UInt8 := (sliceL Option.none (Option.some (cond Bool.false (Max.max x1 100) (Min.min x1 100))) text)
 let x3 : Nat := (List.length x2)
 let x4 : Bool := Bool.true && (Bool.not (ltB 800 x3))
 let x5 : List UInt8 := [0, 0, 0, 0, 0, 0, 0, 0, 0, 0, 0, 0, 0, 0, 0, 0, 0, 0, 0, 0, 0, 0, 0, 0, 0, 0, 0, 0, 0, 0, 0, 0]
 let x6 : Bool := Bool.true && (leB (0 + x3) x3)
 let x7 : Bool := cond Bool.true ((List.take x3 (List.drop 0 x2)) == x2) Bool.false
 cnd (Bool.true && (sliceOk Option.none (Option.some (cond Bool.false (Max.max x1 100) (Min.min x1 100))) x0))
 (cnd (Bool.true && (Decidable.decide (n % 2 = 0)))
 (cnd (x4)
 (cnd (x4)
 (ite2 (nilC x5 0)
 -- THEN
 (cnd (x4)
 (ite2 (nilC x5 1)
 -- THEN
 (cnd (x6)
 (ite2 (x7)
 -- THEN
 (K (AV.bool Bool.false) [])
 -- ELSE
 (K (AV.bool Bool.false) [])))
 -- ELSE
 (cnd (x6)
 (ite2 (x7)
 -- THEN
 (K (AV.bool Bool.true) [])
 -- ELSE
 (K (AV.bool Bool.false) [])))))
 -- ELSE
 (cnd (x4)
 (ite2 (nilC x5 1)
 -- THEN
 (K (AV.bool Bool.false) [])
 -- ELSE
 (K (AV.bool Bool.false) [])))))))) := by kernel_rfl

theorem cends1_eq (k text : List UInt8) (n : Int) (K : AV → Heap → Prop) : walk Try.E RS (CK 1 (.inr rfl)).C (fun _ _ => .unroll 17) 5 3 [.b8 32 k, .vec8 false text, .int .i64 n] K = (
 let x0 : Nat := (List.length text)
 let x1 : Int := ((x0 : Nat) : Int)
 let x2 : List UInt8 := (sliceL Option.none (Option.some (cond Bool.false (Max.max x1 100) (Min.min x1 100))) text)
 let x3 : Nat := (List.length x2)
 let x4 : Bool := Bool.true && (Bool.not (ltB 800 x3))
 let x5 : List UInt8 := [0, 0, 0, 0, 0, 0, 0, 0, 0, 0, 0, 0, 0, 0, 0, 0, 0, 0, 0, 0, 0, 0, 0, 0, 0, 0, 0, 0, 0, 0, 0, 0]
 let x6 : Bool := Bool.true && (leB (0 + x3) x3)
 let x7 : Bool := cond Bool.true ((List.take x3 (List.drop 0 x2)) == x2) Bool.false
 cnd (Bool.true && (sliceOk Option.none (Option.some (cond Bool.false (Max.max x1 100) (Min.min x1 100))) x0))
 (cnd (Bool.true && (Decidable.decide (n % 2 = 1)))
 (cnd (x4)
 (cnd (x4)
 (ite2 (nilC x5 0)
 -- THEN
 (cnd (x4)
 (ite2 (nilC x5 1)
 -- THEN
 (cnd (x6)
 (ite2 (x7)
 -- THEN
 (K (AV.bool Bool.false) [])
 -- ELSE
 (K (AV.bool Bool.false) [])))
 -- ELSE
 (cnd (x6)
 (ite2 (x7)
 -- THEN
 (K (AV.bool Bool.true) [])
 -- ELSE
 (K (AV.bool Bool.false) [])))))
 -- ELSE
 (cnd (x4)
 (ite2 (nilC x5 1)
 -- THEN
 (K (AV.bool Bool.false) [])
 -- ELSE
 (K (AV.bool Bool.false) [])))))))) := by kernel_rfl

end Go.Proofs.Ytdipeoacmapehaa
