import Derived.Test.YtdipeoacmapehaaDoorStr
import Derived.Test.YtdipeoacmapehaaDoorBla
set_option linter.unusedSimpArgs false
set_option linter.unusedVariables false
namespace Go.Proofs.YtdipeoacmapehaaDoor
open Go Go.V Go.Cha Go.Bla
/-- The loops of squeeze. -/
noncomputable def squeezeL (held : List UInt8) (v : List UInt32) : FuncId → Nat → LPlan := fun f l =>
  bif f == 22 && l == 3 then .rel [0, 1, 2, 4, 5] [] Nat (fun _ i => i ≤ 16) (fun i => 16 - i) (fun i => [(17, .int .i64 (i : Nat))]) (fun i => [(2, .blk [.w32 16 (wordsB held i)] [])])
  else bif f == 22 && l == 22 then .rel [0, 1, 2, 4, 5, 8, 10, 77] [] Nat (fun _ n => n ≤ 10) (fun n => 10 - n) (fun n => [(78, .int .i64 (n : Nat))]) (fun n => [(3, .blk [.w32 16 (roundsB (wordsB held 16) v n)] [])])
  else .unroll 17
end Go.Proofs.YtdipeoacmapehaaDoor
