/- Common bounds of loops. -/
import Derived.Test.YthoddhfiiilibaaWS

set_option linter.unusedSimpArgs false
set_option linter.unusedVariables false
namespace Go.Inv
open Go Go.V
/-- A counter that goes up to a number that is known at the loop's beginning. -/
def upTo (g : List AV) (i : Nat) : Prop := match g with
  | [.int _ n] => (i : Int) ≤ n
  | _ => False
def up (i : Nat) : Nat := 9223372036854775808 - i
theorem upTo_int {k : IntKind} {n : Int} {i : Nat} : upTo [.int k n] i ↔ (i : Int) ≤ n := Iff.rfl
theorem up_lt {i : Nat} (h : i < 9223372036854775807) : up (i + 1) < up i := by unfold up; omega
/-- So many more rounds, counted by an int from nought. -/
def count (keep : List Nat) (n j : Nat) : LPlan := .rel keep [n] Nat upTo up (fun i => [(j, .int .i64 (i : Nat))]) (fun _ => [])
end Go.Inv
