import Derived.Test.YtdipeoacmapehaaCipD
import Derived.Test.YtdipeoacmapehaaWV
set_option linter.unusedSimpArgs false
set_option linter.unusedVariables false
namespace Go.Proofs.Ytdipeoacmapehaa
open Go Go.V Go.Fld Go.Pol Go.Cha
set_option maxHeartbeats 0
set_option maxRecDepth 100000

theorem scut_eq (s : List UInt8) (m : Int) (K : AV → Heap → Prop) : walk Try.E RS C2.C (fun _ _ => .unroll 17) 5 10 [.str s, .int .i64 m] K = (
 let x0 : Nat := (List.length s)
 let x1 : Int := ((x0 : Nat) : Int)
 cnd (sliceOk Option.none (Option.some (cond Bool.false (Max.max x1 m) (Min.min x1 m))) x0)
 (K (AV.str (sliceL Option.none (Option.some (cond Bool.false (Max.max x1 m) (Min.min x1 m))) s)) [])) := by kernel_rfl

theorem ssome_eq (full : Bool) (n : Nat) (f : Nat → List AV) (m : Int) (K : AV → Heap → Prop) : walk Try.E RS C2.C (fun _ _ => .unroll 17) 5 9 [.vecr full 4 n f, .int .i64 m] K = (
 let x0 : Int := ((n : Nat) : Int)
 cnd (Bool.true && (sliceOk Option.none (Option.some (cond Bool.false (Max.max x0 m) (Min.min x0 m))) n))
 (K (AV.vecr (full && Bool.false) 4 ((hiN n (Option.some (cond Bool.false (Max.max x0 m) (Min.min x0 m)))) - 0) (fun i => f ((loN Option.none) + i))) [])) := by kernel_rfl

end Go.Proofs.Ytdipeoacmapehaa
