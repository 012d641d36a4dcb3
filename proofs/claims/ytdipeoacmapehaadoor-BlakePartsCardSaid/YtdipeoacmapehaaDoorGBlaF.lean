import Derived.Test.YtdipeoacmapehaaDoorBlaG
import Derived.Test.YtdipeoacmapehaaDoorStr
set_option linter.unusedSimpArgs false
set_option linter.unusedVariables false
namespace Go.Proofs.YtdipeoacmapehaaDoor
open Go Go.V Go.Cha Go.Bla
set_option maxHeartbeats 0
set_option maxRecDepth 100000

theorem bsum_eq (full : Bool) (b : List UInt8) (K : AV → Heap → Prop) : walk Tryd.E RS B3.C (fun _ l => .unroll 5) 5 11 [.vec8 full b] K = (
 let x0 : List UInt8 := (Bla.BS.held Bla.startS)
 let x1 : List UInt8 := (Bla.BS.held (bsO (Bla.BS.h Bla.startS) x0 (((Bla.BS.n Bla.startS) : Nat) : Int) (((Bla.BS.len Bla.startS) : Nat) : Int) b))
 let x2 : Int := (((Bla.BS.n (bsO (Bla.BS.h Bla.startS) x0 (((Bla.BS.n Bla.startS) : Nat) : Int) (((Bla.BS.len Bla.startS) : Nat) : Int) b)) : Nat) : Int)
 let x3 : Int := (((Bla.BS.len (bsO (Bla.BS.h Bla.startS) x0 (((Bla.BS.n Bla.startS) : Nat) : Int) (((Bla.BS.len Bla.startS) : Nat) : Int) b)) : Nat) : Int)
 cnd ((Bla.okS x0 0 0) && (leB (0 + (List.length b)) 1073741824))
 (cnd (Bla.okS x1 x2 x3)
 (K (AV.b8 32 (Bla.endB (Bla.BS.mk (Bla.BS.h (bsO (Bla.BS.h Bla.startS) x0 (((Bla.BS.n Bla.startS) : Nat) : Int) (((Bla.BS.len Bla.startS) : Nat) : Int) b)) x1 (Int.toNat x2) (Int.toNat x3)))) []))) := by kernel_rfl

end Go.Proofs.YtdipeoacmapehaaDoor
