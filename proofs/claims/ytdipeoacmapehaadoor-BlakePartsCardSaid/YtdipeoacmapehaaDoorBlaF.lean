import Derived.Test.YtdipeoacmapehaaDoorBlaE
set_option linter.unusedSimpArgs false
set_option linter.unusedVariables false
namespace Go.Proofs.YtdipeoacmapehaaDoor
open Go Go.V Go.Cha Go.Bla
noncomputable def bsA (s : BS) : AV := .agg [.w32 8 s.h, .b8 64 s.held, .int .i64 ((s.n : Nat) : Int), .int .i64 ((s.len : Nat) : Int)]
noncomputable def baddL (s : BS) (b : List UInt8) : LPlan := .rel [2, 4, 22, 23] [23] Nat Inv.upTo Inv.up (fun i => [(24, .int .i64 (i : Nat))])
  (fun i => [(0, .blk [.w32 8 (addB s (b.take i)).h, .b8 64 (addB s (b.take i)).held, .int .i64 (((addB s (b.take i)).n : Nat) : Int), .int .i64 (((addB s (b.take i)).len : Nat) : Int)] [])])
end Go.Proofs.YtdipeoacmapehaaDoor
