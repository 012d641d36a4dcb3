import Derived.Test.YtdipeoacmapehaaDoorBlaH
set_option linter.unusedSimpArgs false
set_option linter.unusedVariables false
namespace Go.Proofs.YtdipeoacmapehaaDoor
open Go Go.V Go.Cha Go.Bla
set_option maxHeartbeats 0
set_option maxRecDepth 100000

theorem btells_eq (K : AV → Heap → Prop) : walk Tryd.E RS B4.C (fun _ l => .unroll 5) 5 10 [] K = (

 K (AV.bool ((((UInt8.toNat (List.getD (Bla.sumS (List.take 3 (List.drop 0 (List.set (List.set (List.set (List.replicate 3 0) 0 97) 1 98) 2 99)))) 0 0)) : Nat) : Int) == 80)) []) := by kernel_rfl

end Go.Proofs.YtdipeoacmapehaaDoor
