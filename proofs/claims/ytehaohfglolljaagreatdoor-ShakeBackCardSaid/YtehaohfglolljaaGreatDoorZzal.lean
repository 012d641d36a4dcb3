import Derived.Test.YtehaohfglolljaaGreatDoorZzaj
import Derived.KernelRfl
set_option linter.unusedSimpArgs false
set_option linter.unusedVariables false
namespace Go.Pat
open Go Go.V
set_option maxRecDepth 100000
def zof : List (List UInt8 × List Int) := [
 ([78, 78], []),
 ([78, 78], [0]),
 ([78, 78], [1]),
 ([78, 78], [0, 1]),
 ([78, 78], [2]),
 ([78, 78], [0, 2]),
 ([78, 78], [1, 2]),
 ([78, 78], [0, 1, 2]),
 ([78, 75], []),
 ([78, 75], [0]),
 ([78, 75], [1]),
 ([78, 75], [0, 1]),
 ([78, 75], [2]),
 ([78, 75], [0, 2]),
 ([78, 75], [1, 2]),
 ([78, 75], [0, 1, 2]),
 ([73, 75], []),
 ([73, 75], [0]),
 ([73, 75], [1]),
 ([73, 75], [0, 1]),
 ([73, 75], [2]),
 ([73, 75], [0, 2]),
 ([73, 75], [1, 2]),
 ([73, 75], [0, 1, 2]),
 ([75, 75], []),
 ([75, 75], [0]),
 ([75, 75], [1]),
 ([75, 75], [0, 1]),
 ([75, 75], [2]),
 ([75, 75], [0, 2]),
 ([75, 75], [1, 2]),
 ([75, 75], [0, 1, 2]),
 ([88, 88], []),
 ([88, 88], [0]),
 ([88, 88], [1]),
 ([88, 88], [0, 1]),
 ([88, 88], [2]),
 ([88, 88], [0, 2]),
 ([88, 88], [1, 2]),
 ([88, 88], [0, 1, 2]),
 ([88, 88], [3]),
 ([88, 88], [0, 3]),
 ([88, 88], [1, 3]),
 ([88, 88], [0, 1, 3]),
 ([88, 88], [2, 3]),
 ([88, 88], [0, 2, 3]),
 ([88, 88], [1, 2, 3]),
 ([88, 88], [0, 1, 2, 3]),
 ([88, 75], []),
 ([88, 75], [0]),
 ([88, 75], [1]),
 ([88, 75], [0, 1]),
 ([88, 75], [2]),
 ([88, 75], [0, 2]),
 ([88, 75], [1, 2]),
 ([88, 75], [0, 1, 2]),
 ([88, 75], [3]),
 ([88, 75], [0, 3]),
 ([88, 75], [1, 3]),
 ([88, 75], [0, 1, 3]),
 ([88, 75], [2, 3]),
 ([88, 75], [0, 2, 3]),
 ([88, 75], [1, 2, 3]),
 ([88, 75], [0, 1, 2, 3]),
 ([88, 88, 102, 97, 108, 108, 98, 97, 99, 107], [])]
def z2e : List Pat := [
 ⟨[78, 78], false, [], [], [], [[1], [1, 3]]⟩,
 ⟨[78, 78], false, [0], [], [], [[7, 1], [1, 3]]⟩,
 ⟨[78, 78], false, [1], [], [], [[1, 7], [1, 3]]⟩,
 ⟨[78, 78], false, [0, 1], [], [], [[7, 1, 7], [1, 3]]⟩,
 ⟨[78, 78], false, [2], [], [], [[1], [1, 3, 7]]⟩,
 ⟨[78, 78], false, [0, 2], [], [], [[7, 1], [1, 3, 7]]⟩,
 ⟨[78, 78], false, [1, 2], [], [], [[1, 7], [1, 3, 7]]⟩,
 ⟨[78, 78], false, [0, 1, 2], [], [], [[7, 1, 7], [1, 3, 7]]⟩,
 ⟨[78, 75], false, [], [], [2], [[1, 4], [1, 3]]⟩,
 ⟨[78, 75], false, [0], [], [2], [[7, 1, 4], [1, 3]]⟩,
 ⟨[78, 75], false, [1], [], [2], [[1, 4, 7], [1, 3]]⟩,
 ⟨[78, 75], false, [0, 1], [], [2], [[7, 1, 4, 7], [1, 3]]⟩,
 ⟨[78, 75], false, [2], [], [2], [[1, 4], [1, 3, 7]]⟩,
 ⟨[78, 75], false, [0, 2], [], [2], [[7, 1, 4], [1, 3, 7]]⟩,
 ⟨[78, 75], false, [1, 2], [], [2], [[1, 4, 7], [1, 3, 7]]⟩,
 ⟨[78, 75], false, [0, 1, 2], [], [2], [[7, 1, 4, 7], [1, 3, 7]]⟩,
 ⟨[73, 75], false, [], [], [2], [[1, 4, 2, 6], [1, 3, 5]]⟩,
 ⟨[73, 75], false, [0], [], [2], [[7, 1, 4, 2, 6], [1, 3, 5]]⟩,
 ⟨[73, 75], false, [1], [], [2], [[1, 4, 2, 6, 7], [1, 3, 5]]⟩,
 ⟨[73, 75], false, [0, 1], [], [2], [[7, 1, 4, 2, 6, 7], [1, 3, 5]]⟩,
 ⟨[73, 75], false, [2], [], [2], [[1, 4, 2, 6], [1, 3, 5, 7]]⟩,
 ⟨[73, 75], false, [0, 2], [], [2], [[7, 1, 4, 2, 6], [1, 3, 5, 7]]⟩,
 ⟨[73, 75], false, [1, 2], [], [2], [[1, 4, 2, 6, 7], [1, 3, 5, 7]]⟩,
 ⟨[73, 75], false, [0, 1, 2], [], [2], [[7, 1, 4, 2, 6, 7], [1, 3, 5, 7]]⟩,
 ⟨[75, 75], false, [], [2], [2], [[1, 4, 6], [1, 3, 5]]⟩,
 ⟨[75, 75], false, [0], [2], [2], [[7, 1, 4, 6], [1, 3, 5]]⟩,
 ⟨[75, 75], false, [1], [2], [2], [[1, 4, 6, 7], [1, 3, 5]]⟩,
 ⟨[75, 75], false, [0, 1], [2], [2], [[7, 1, 4, 6, 7], [1, 3, 5]]⟩,
 ⟨[75, 75], false, [2], [2], [2], [[1, 4, 6], [1, 3, 5, 7]]⟩,
 ⟨[75, 75], false, [0, 2], [2], [2], [[7, 1, 4, 6], [1, 3, 5, 7]]⟩,
 ⟨[75, 75], false, [1, 2], [2], [2], [[1, 4, 6, 7], [1, 3, 5, 7]]⟩,
 ⟨[75, 75], false, [0, 1, 2], [2], [2], [[7, 1, 4, 6, 7], [1, 3, 5, 7]]⟩,
 ⟨[88, 88], false, [], [], [], [[1], [1, 3, 2, 4], [2, 5]]⟩,
 ⟨[88, 88], false, [0], [], [], [[7, 1], [1, 3, 2, 4], [2, 5]]⟩,
 ⟨[88, 88], false, [1], [], [], [[1, 7], [1, 3, 2, 4], [2, 5]]⟩,
 ⟨[88, 88], false, [0, 1], [], [], [[7, 1, 7], [1, 3, 2, 4], [2, 5]]⟩,
 ⟨[88, 88], false, [2], [], [], [[1], [1, 3, 2, 4, 7], [2, 5]]⟩,
 ⟨[88, 88], false, [0, 2], [], [], [[7, 1], [1, 3, 2, 4, 7], [2, 5]]⟩,
 ⟨[88, 88], false, [1, 2], [], [], [[1, 7], [1, 3, 2, 4, 7], [2, 5]]⟩,
 ⟨[88, 88], false, [0, 1, 2], [], [], [[7, 1, 7], [1, 3, 2, 4, 7], [2, 5]]⟩,
 ⟨[88, 88], false, [3], [], [], [[1], [1, 3, 2, 4], [2, 5, 7]]⟩,
 ⟨[88, 88], false, [0, 3], [], [], [[7, 1], [1, 3, 2, 4], [2, 5, 7]]⟩,
 ⟨[88, 88], false, [1, 3], [], [], [[1, 7], [1, 3, 2, 4], [2, 5, 7]]⟩,
 ⟨[88, 88], false, [0, 1, 3], [], [], [[7, 1, 7], [1, 3, 2, 4], [2, 5, 7]]⟩,
 ⟨[88, 88], false, [2, 3], [], [], [[1], [1, 3, 2, 4, 7], [2, 5, 7]]⟩,
 ⟨[88, 88], false, [0, 2, 3], [], [], [[7, 1], [1, 3, 2, 4, 7], [2, 5, 7]]⟩,
 ⟨[88, 88], false, [1, 2, 3], [], [], [[1, 7], [1, 3, 2, 4, 7], [2, 5, 7]]⟩,
 ⟨[88, 88], false, [0, 1, 2, 3], [], [], [[7, 1, 7], [1, 3, 2, 4, 7], [2, 5, 7]]⟩,
 ⟨[88, 75], false, [], [], [2], [[1, 4], [1, 3], [2, 5]]⟩,
 ⟨[88, 75], false, [0], [], [2], [[7, 1, 4], [1, 3], [2, 5]]⟩,
 ⟨[88, 75], false, [1], [], [2], [[1, 4, 7], [1, 3], [2, 5]]⟩,
 ⟨[88, 75], false, [0, 1], [], [2], [[7, 1, 4, 7], [1, 3], [2, 5]]⟩,
 ⟨[88, 75], false, [2], [], [2], [[1, 4], [1, 3, 7], [2, 5]]⟩,
 ⟨[88, 75], false, [0, 2], [], [2], [[7, 1, 4], [1, 3, 7], [2, 5]]⟩,
 ⟨[88, 75], false, [1, 2], [], [2], [[1, 4, 7], [1, 3, 7], [2, 5]]⟩,
 ⟨[88, 75], false, [0, 1, 2], [], [2], [[7, 1, 4, 7], [1, 3, 7], [2, 5]]⟩,
 ⟨[88, 75], false, [3], [], [2], [[1, 4], [1, 3], [2, 5, 7]]⟩,
 ⟨[88, 75], false, [0, 3], [], [2], [[7, 1, 4], [1, 3], [2, 5, 7]]⟩,
 ⟨[88, 75], false, [1, 3], [], [2], [[1, 4, 7], [1, 3], [2, 5, 7]]⟩,
 ⟨[88, 75], false, [0, 1, 3], [], [2], [[7, 1, 4, 7], [1, 3], [2, 5, 7]]⟩,
 ⟨[88, 75], false, [2, 3], [], [2], [[1, 4], [1, 3, 7], [2, 5, 7]]⟩,
 ⟨[88, 75], false, [0, 2, 3], [], [2], [[7, 1, 4], [1, 3, 7], [2, 5, 7]]⟩,
 ⟨[88, 75], false, [1, 2, 3], [], [2], [[1, 4, 7], [1, 3, 7], [2, 5, 7]]⟩,
 ⟨[88, 75], false, [0, 1, 2, 3], [], [2], [[7, 1, 4, 7], [1, 3, 7], [2, 5, 7]]⟩,
 ⟨[88, 88, 102, 97, 108, 108, 98, 97, 99, 107], true, [], [1], [], [[1, 3, 2, 4], [2, 5]]⟩]
def z9j : List AV := [
 .agg [.str [78, 78], .bool false, .vec false 1 [], .vec false 1 [], .vec false 1 [], .vec false 1 [.vec false 1 [.int .i64 1], .vec false 1 [.int .i64 1, .int .i64 3]]],
 .agg [.str [78, 78], .bool false, .vec false 1 [.int .i64 0], .vec false 1 [], .vec false 1 [], .vec false 1 [.vec false 1 [.int .i64 7, .int .i64 1], .vec false 1 [.int .i64 1, .int .i64 3]]],
 .agg [.str [78, 78], .bool false, .vec false 1 [.int .i64 1], .vec false 1 [], .vec false 1 [], .vec false 1 [.vec false 1 [.int .i64 1, .int .i64 7], .vec false 1 [.int .i64 1, .int .i64 3]]],
 .agg [.str [78, 78], .bool false, .vec false 1 [.int .i64 0, .int .i64 1], .vec false 1 [], .vec false 1 [], .vec false 1 [.vec false 1 [.int .i64 7, .int .i64 1, .int .i64 7], .vec false 1 [.int .i64 1, .int .i64 3]]],
 .agg [.str [78, 78], .bool false, .vec false 1 [.int .i64 2], .vec false 1 [], .vec false 1 [], .vec false 1 [.vec false 1 [.int .i64 1], .vec false 1 [.int .i64 1, .int .i64 3, .int .i64 7]]],
 .agg [.str [78, 78], .bool false, .vec false 1 [.int .i64 0, .int .i64 2], .vec false 1 [], .vec false 1 [], .vec false 1 [.vec false 1 [.int .i64 7, .int .i64 1], .vec false 1 [.int .i64 1, .int .i64 3, .int .i64 7]]],
 .agg [.str [78, 78], .bool false, .vec false 1 [.int .i64 1, .int .i64 2], .vec false 1 [], .vec false 1 [], .vec false 1 [.vec false 1 [.int .i64 1, .int .i64 7], .vec false 1 [.int .i64 1, .int .i64 3, .int .i64 7]]],
 .agg [.str [78, 78], .bool false, .vec false 1 [.int .i64 0, .int .i64 1, .int .i64 2], .vec false 1 [], .vec false 1 [], .vec false 1 [.vec false 1 [.int .i64 7, .int .i64 1, .int .i64 7], .vec false 1 [.int .i64 1, .int .i64 3, .int .i64 7]]],
 .agg [.str [78, 75], .bool false, .vec false 1 [], .vec false 1 [], .vec false 1 [.int .i64 2], .vec false 1 [.vec false 1 [.int .i64 1, .int .i64 4], .vec false 1 [.int .i64 1, .int .i64 3]]],
 .agg [.str [78, 75], .bool false, .vec false 1 [.int .i64 0], .vec false 1 [], .vec false 1 [.int .i64 2], .vec false 1 [.vec false 1 [.int .i64 7, .int .i64 1, .int .i64 4], .vec false 1 [.int .i64 1, .int .i64 3]]],
 .agg [.str [78, 75], .bool false, .vec false 1 [.int .i64 1], .vec false 1 [], .vec false 1 [.int .i64 2], .vec false 1 [.vec false 1 [.int .i64 1, .int .i64 4, .int .i64 7], .vec false 1 [.int .i64 1, .int .i64 3]]],
 .agg [.str [78, 75], .bool false, .vec false 1 [.int .i64 0, .int .i64 1], .vec false 1 [], .vec false 1 [.int .i64 2], .vec false 1 [.vec false 1 [.int .i64 7, .int .i64 1, .int .i64 4, .int .i64 7], .vec false 1 [.int .i64 1, .int .i64 3]]],
 .agg [.str [78, 75], .bool false, .vec false 1 [.int .i64 2], .vec false 1 [], .vec false 1 [.int .i64 2], .vec false 1 [.vec false 1 [.int .i64 1, .int .i64 4], .vec false 1 [.int .i64 1, .int .i64 3, .int .i64 7]]],
 .agg [.str [78, 75], .bool false, .vec false 1 [.int .i64 0, .int .i64 2], .vec false 1 [], .vec false 1 [.int .i64 2], .vec false 1 [.vec false 1 [.int .i64 7, .int .i64 1, .int .i64 4], .vec false 1 [.int .i64 1, .int .i64 3, .int .i64 7]]],
 .agg [.str [78, 75], .bool false, .vec false 1 [.int .i64 1, .int .i64 2], .vec false 1 [], .vec false 1 [.int .i64 2], .vec false 1 [.vec false 1 [.int .i64 1, .int .i64 4, .int .i64 7], .vec false 1 [.int .i64 1, .int .i64 3, .int .i64 7]]],
 .agg [.str [78, 75], .bool false, .vec false 1 [.int .i64 0, .int .i64 1, .int .i64 2], .vec false 1 [], .vec false 1 [.int .i64 2], .vec false 1 [.vec false 1 [.int .i64 7, .int .i64 1, .int .i64 4, .int .i64 7], .vec false 1 [.int .i64 1, .int .i64 3, .int .i64 7]]],
 .agg [.str [73, 75], .bool false, .vec false 1 [], .vec false 1 [], .vec false 1 [.int .i64 2], .vec false 1 [.vec false 1 [.int .i64 1, .int .i64 4, .int .i64 2, .int .i64 6], .vec false 1 [.int .i64 1, .int .i64 3, .int .i64 5]]],
 .agg [.str [73, 75], .bool false, .vec false 1 [.int .i64 0], .vec false 1 [], .vec false 1 [.int .i64 2], .vec false 1 [.vec false 1 [.int .i64 7, .int .i64 1, .int .i64 4, .int .i64 2, .int .i64 6], .vec false 1 [.int .i64 1, .int .i64 3, .int .i64 5]]],
 .agg [.str [73, 75], .bool false, .vec false 1 [.int .i64 1], .vec false 1 [], .vec false 1 [.int .i64 2], .vec false 1 [.vec false 1 [.int .i64 1, .int .i64 4, .int .i64 2, .int .i64 6, .int .i64 7], .vec false 1 [.int .i64 1, .int .i64 3, .int .i64 5]]],
 .agg [.str [73, 75], .bool false, .vec false 1 [.int .i64 0, .int .i64 1], .vec false 1 [], .vec false 1 [.int .i64 2], .vec false 1 [.vec false 1 [.int .i64 7, .int .i64 1, .int .i64 4, .int .i64 2, .int .i64 6, .int .i64 7], .vec false 1 [.int .i64 1, .int .i64 3, .int .i64 5]]],
 .agg [.str [73, 75], .bool false, .vec false 1 [.int .i64 2], .vec false 1 [], .vec false 1 [.int .i64 2], .vec false 1 [.vec false 1 [.int .i64 1, .int .i64 4, .int .i64 2, .int .i64 6], .vec false 1 [.int .i64 1, .int .i64 3, .int .i64 5, .int .i64 7]]],
 .agg [.str [73, 75], .bool false, .vec false 1 [.int .i64 0, .int .i64 2], .vec false 1 [], .vec false 1 [.int .i64 2], .vec false 1 [.vec false 1 [.int .i64 7, .int .i64 1, .int .i64 4, .int .i64 2, .int .i64 6], .vec false 1 [.int .i64 1, .int .i64 3, .int .i64 5, .int .i64 7]]],
 .agg [.str [73, 75], .bool false, .vec false 1 [.int .i64 1, .int .i64 2], .vec false 1 [], .vec false 1 [.int .i64 2], .vec false 1 [.vec false 1 [.int .i64 1, .int .i64 4, .int .i64 2, .int .i64 6, .int .i64 7], .vec false 1 [.int .i64 1, .int .i64 3, .int .i64 5, .int .i64 7]]],
 .agg [.str [73, 75], .bool false, .vec false 1 [.int .i64 0, .int .i64 1, .int .i64 2], .vec false 1 [], .vec false 1 [.int .i64 2], .vec false 1 [.vec false 1 [.int .i64 7, .int .i64 1, .int .i64 4, .int .i64 2, .int .i64 6, .int .i64 7], .vec false 1 [.int .i64 1, .int .i64 3, .int .i64 5, .int .i64 7]]],
 .agg [.str [75, 75], .bool false, .vec false 1 [], .vec false 1 [.int .i64 2], .vec false 1 [.int .i64 2], .vec false 1 [.vec false 1 [.int .i64 1, .int .i64 4, .int .i64 6], .vec false 1 [.int .i64 1, .int .i64 3, .int .i64 5]]],
 .agg [.str [75, 75], .bool false, .vec false 1 [.int .i64 0], .vec false 1 [.int .i64 2], .vec false 1 [.int .i64 2], .vec false 1 [.vec false 1 [.int .i64 7, .int .i64 1, .int .i64 4, .int .i64 6], .vec false 1 [.int .i64 1, .int .i64 3, .int .i64 5]]],
 .agg [.str [75, 75], .bool false, .vec false 1 [.int .i64 1], .vec false 1 [.int .i64 2], .vec false 1 [.int .i64 2], .vec false 1 [.vec false 1 [.int .i64 1, .int .i64 4, .int .i64 6, .int .i64 7], .vec false 1 [.int .i64 1, .int .i64 3, .int .i64 5]]],
 .agg [.str [75, 75], .bool false, .vec false 1 [.int .i64 0, .int .i64 1], .vec false 1 [.int .i64 2], .vec false 1 [.int .i64 2], .vec false 1 [.vec false 1 [.int .i64 7, .int .i64 1, .int .i64 4, .int .i64 6, .int .i64 7], .vec false 1 [.int .i64 1, .int .i64 3, .int .i64 5]]],
 .agg [.str [75, 75], .bool false, .vec false 1 [.int .i64 2], .vec false 1 [.int .i64 2], .vec false 1 [.int .i64 2], .vec false 1 [.vec false 1 [.int .i64 1, .int .i64 4, .int .i64 6], .vec false 1 [.int .i64 1, .int .i64 3, .int .i64 5, .int .i64 7]]],
 .agg [.str [75, 75], .bool false, .vec false 1 [.int .i64 0, .int .i64 2], .vec false 1 [.int .i64 2], .vec false 1 [.int .i64 2], .vec false 1 [.vec false 1 [.int .i64 7, .int .i64 1, .int .i64 4, .int .i64 6], .vec false 1 [.int .i64 1, .int .i64 3, .int .i64 5, .int .i64 7]]],
 .agg [.str [75, 75], .bool false, .vec false 1 [.int .i64 1, .int .i64 2], .vec false 1 [.int .i64 2], .vec false 1 [.int .i64 2], .vec false 1 [.vec false 1 [.int .i64 1, .int .i64 4, .int .i64 6, .int .i64 7], .vec false 1 [.int .i64 1, .int .i64 3, .int .i64 5, .int .i64 7]]],
 .agg [.str [75, 75], .bool false, .vec false 1 [.int .i64 0, .int .i64 1, .int .i64 2], .vec false 1 [.int .i64 2], .vec false 1 [.int .i64 2], .vec false 1 [.vec false 1 [.int .i64 7, .int .i64 1, .int .i64 4, .int .i64 6, .int .i64 7], .vec false 1 [.int .i64 1, .int .i64 3, .int .i64 5, .int .i64 7]]],
 .agg [.str [88, 88], .bool false, .vec false 1 [], .vec false 1 [], .vec false 1 [], .vec false 1 [.vec false 1 [.int .i64 1], .vec false 1 [.int .i64 1, .int .i64 3, .int .i64 2, .int .i64 4], .vec false 1 [.int .i64 2, .int .i64 5]]],
 .agg [.str [88, 88], .bool false, .vec false 1 [.int .i64 0], .vec false 1 [], .vec false 1 [], .vec false 1 [.vec false 1 [.int .i64 7, .int .i64 1], .vec false 1 [.int .i64 1, .int .i64 3, .int .i64 2, .int .i64 4], .vec false 1 [.int .i64 2, .int .i64 5]]],
 .agg [.str [88, 88], .bool false, .vec false 1 [.int .i64 1], .vec false 1 [], .vec false 1 [], .vec false 1 [.vec false 1 [.int .i64 1, .int .i64 7], .vec false 1 [.int .i64 1, .int .i64 3, .int .i64 2, .int .i64 4], .vec false 1 [.int .i64 2, .int .i64 5]]],
 .agg [.str [88, 88], .bool false, .vec false 1 [.int .i64 0, .int .i64 1], .vec false 1 [], .vec false 1 [], .vec false 1 [.vec false 1 [.int .i64 7, .int .i64 1, .int .i64 7], .vec false 1 [.int .i64 1, .int .i64 3, .int .i64 2, .int .i64 4], .vec false 1 [.int .i64 2, .int .i64 5]]],
 .agg [.str [88, 88], .bool false, .vec false 1 [.int .i64 2], .vec false 1 [], .vec false 1 [], .vec false 1 [.vec false 1 [.int .i64 1], .vec false 1 [.int .i64 1, .int .i64 3, .int .i64 2, .int .i64 4, .int .i64 7], .vec false 1 [.int .i64 2, .int .i64 5]]],
 .agg [.str [88, 88], .bool false, .vec false 1 [.int .i64 0, .int .i64 2], .vec false 1 [], .vec false 1 [], .vec false 1 [.vec false 1 [.int .i64 7, .int .i64 1], .vec false 1 [.int .i64 1, .int .i64 3, .int .i64 2, .int .i64 4, .int .i64 7], .vec false 1 [.int .i64 2, .int .i64 5]]],
 .agg [.str [88, 88], .bool false, .vec false 1 [.int .i64 1, .int .i64 2], .vec false 1 [], .vec false 1 [], .vec false 1 [.vec false 1 [.int .i64 1, .int .i64 7], .vec false 1 [.int .i64 1, .int .i64 3, .int .i64 2, .int .i64 4, .int .i64 7], .vec false 1 [.int .i64 2, .int .i64 5]]],
 .agg [.str [88, 88], .bool false, .vec false 1 [.int .i64 0, .int .i64 1, .int .i64 2], .vec false 1 [], .vec false 1 [], .vec false 1 [.vec false 1 [.int .i64 7, .int .i64 1, .int .i64 7], .vec false 1 [.int .i64 1, .int .i64 3, .int .i64 2, .int .i64 4, .int .i64 7], .vec false 1 [.int .i64 2, .int .i64 5]]],
 .agg [.str [88, 88], .bool false, .vec false 1 [.int .i64 3], .vec false 1 [], .vec false 1 [], .vec false 1 [.vec false 1 [.int .i64 1], .vec false 1 [.int .i64 1, .int .i64 3, .int .i64 2, .int .i64 4], .vec false 1 [.int .i64 2, .int .i64 5, .int .i64 7]]],
 .agg [.str [88, 88], .bool false, .vec false 1 [.int .i64 0, .int .i64 3], .vec false 1 [], .vec false 1 [], .vec false 1 [.vec false 1 [.int .i64 7, .int .i64 1], .vec false 1 [.int .i64 1, .int .i64 3, .int .i64 2, .int .i64 4], .vec false 1 [.int .i64 2, .int .i64 5, .int .i64 7]]],
 .agg [.str [88, 88], .bool false, .vec false 1 [.int .i64 1, .int .i64 3], .vec false 1 [], .vec false 1 [], .vec false 1 [.vec false 1 [.int .i64 1, .int .i64 7], .vec false 1 [.int .i64 1, .int .i64 3, .int .i64 2, .int .i64 4], .vec false 1 [.int .i64 2, .int .i64 5, .int .i64 7]]],
 .agg [.str [88, 88], .bool false, .vec false 1 [.int .i64 0, .int .i64 1, .int .i64 3], .vec false 1 [], .vec false 1 [], .vec false 1 [.vec false 1 [.int .i64 7, .int .i64 1, .int .i64 7], .vec false 1 [.int .i64 1, .int .i64 3, .int .i64 2, .int .i64 4], .vec false 1 [.int .i64 2, .int .i64 5, .int .i64 7]]],
 .agg [.str [88, 88], .bool false, .vec false 1 [.int .i64 2, .int .i64 3], .vec false 1 [], .vec false 1 [], .vec false 1 [.vec false 1 [.int .i64 1], .vec false 1 [.int .i64 1, .int .i64 3, .int .i64 2, .int .i64 4, .int .i64 7], .vec false 1 [.int .i64 2, .int .i64 5, .int .i64 7]]],
 .agg [.str [88, 88], .bool false, .vec false 1 [.int .i64 0, .int .i64 2, .int .i64 3], .vec false 1 [], .vec false 1 [], .vec false 1 [.vec false 1 [.int .i64 7, .int .i64 1], .vec false 1 [.int .i64 1, .int .i64 3, .int .i64 2, .int .i64 4, .int .i64 7], .vec false 1 [.int .i64 2, .int .i64 5, .int .i64 7]]],
 .agg [.str [88, 88], .bool false, .vec false 1 [.int .i64 1, .int .i64 2, .int .i64 3], .vec false 1 [], .vec false 1 [], .vec false 1 [.vec false 1 [.int .i64 1, .int .i64 7], .vec false 1 [.int .i64 1, .int .i64 3, .int .i64 2, .int .i64 4, .int .i64 7], .vec false 1 [.int .i64 2, .int .i64 5, .int .i64 7]]],
 .agg [.str [88, 88], .bool false, .vec false 1 [.int .i64 0, .int .i64 1, .int .i64 2, .int .i64 3], .vec false 1 [], .vec false 1 [], .vec false 1 [.vec false 1 [.int .i64 7, .int .i64 1, .int .i64 7], .vec false 1 [.int .i64 1, .int .i64 3, .int .i64 2, .int .i64 4, .int .i64 7], .vec false 1 [.int .i64 2, .int .i64 5, .int .i64 7]]],
 .agg [.str [88, 75], .bool false, .vec false 1 [], .vec false 1 [], .vec false 1 [.int .i64 2], .vec false 1 [.vec false 1 [.int .i64 1, .int .i64 4], .vec false 1 [.int .i64 1, .int .i64 3], .vec false 1 [.int .i64 2, .int .i64 5]]],
 .agg [.str [88, 75], .bool false, .vec false 1 [.int .i64 0], .vec false 1 [], .vec false 1 [.int .i64 2], .vec false 1 [.vec false 1 [.int .i64 7, .int .i64 1, .int .i64 4], .vec false 1 [.int .i64 1, .int .i64 3], .vec false 1 [.int .i64 2, .int .i64 5]]],
 .agg [.str [88, 75], .bool false, .vec false 1 [.int .i64 1], .vec false 1 [], .vec false 1 [.int .i64 2], .vec false 1 [.vec false 1 [.int .i64 1, .int .i64 4, .int .i64 7], .vec false 1 [.int .i64 1, .int .i64 3], .vec false 1 [.int .i64 2, .int .i64 5]]],
 .agg [.str [88, 75], .bool false, .vec false 1 [.int .i64 0, .int .i64 1], .vec false 1 [], .vec false 1 [.int .i64 2], .vec false 1 [.vec false 1 [.int .i64 7, .int .i64 1, .int .i64 4, .int .i64 7], .vec false 1 [.int .i64 1, .int .i64 3], .vec false 1 [.int .i64 2, .int .i64 5]]],
 .agg [.str [88, 75], .bool false, .vec false 1 [.int .i64 2], .vec false 1 [], .vec false 1 [.int .i64 2], .vec false 1 [.vec false 1 [.int .i64 1, .int .i64 4], .vec false 1 [.int .i64 1, .int .i64 3, .int .i64 7], .vec false 1 [.int .i64 2, .int .i64 5]]],
 .agg [.str [88, 75], .bool false, .vec false 1 [.int .i64 0, .int .i64 2], .vec false 1 [], .vec false 1 [.int .i64 2], .vec false 1 [.vec false 1 [.int .i64 7, .int .i64 1, .int .i64 4], .vec false 1 [.int .i64 1, .int .i64 3, .int .i64 7], .vec false 1 [.int .i64 2, .int .i64 5]]],
 .agg [.str [88, 75], .bool false, .vec false 1 [.int .i64 1, .int .i64 2], .vec false 1 [], .vec false 1 [.int .i64 2], .vec false 1 [.vec false 1 [.int .i64 1, .int .i64 4, .int .i64 7], .vec false 1 [.int .i64 1, .int .i64 3, .int .i64 7], .vec false 1 [.int .i64 2, .int .i64 5]]],
 .agg [.str [88, 75], .bool false, .vec false 1 [.int .i64 0, .int .i64 1, .int .i64 2], .vec false 1 [], .vec false 1 [.int .i64 2], .vec false 1 [.vec false 1 [.int .i64 7, .int .i64 1, .int .i64 4, .int .i64 7], .vec false 1 [.int .i64 1, .int .i64 3, .int .i64 7], .vec false 1 [.int .i64 2, .int .i64 5]]],
 .agg [.str [88, 75], .bool false, .vec false 1 [.int .i64 3], .vec false 1 [], .vec false 1 [.int .i64 2], .vec false 1 [.vec false 1 [.int .i64 1, .int .i64 4], .vec false 1 [.int .i64 1, .int .i64 3], .vec false 1 [.int .i64 2, .int .i64 5, .int .i64 7]]],
 .agg [.str [88, 75], .bool false, .vec false 1 [.int .i64 0, .int .i64 3], .vec false 1 [], .vec false 1 [.int .i64 2], .vec false 1 [.vec false 1 [.int .i64 7, .int .i64 1, .int .i64 4], .vec false 1 [.int .i64 1, .int .i64 3], .vec false 1 [.int .i64 2, .int .i64 5, .int .i64 7]]],
 .agg [.str [88, 75], .bool false, .vec false 1 [.int .i64 1, .int .i64 3], .vec false 1 [], .vec false 1 [.int .i64 2], .vec false 1 [.vec false 1 [.int .i64 1, .int .i64 4, .int .i64 7], .vec false 1 [.int .i64 1, .int .i64 3], .vec false 1 [.int .i64 2, .int .i64 5, .int .i64 7]]],
 .agg [.str [88, 75], .bool false, .vec false 1 [.int .i64 0, .int .i64 1, .int .i64 3], .vec false 1 [], .vec false 1 [.int .i64 2], .vec false 1 [.vec false 1 [.int .i64 7, .int .i64 1, .int .i64 4, .int .i64 7], .vec false 1 [.int .i64 1, .int .i64 3], .vec false 1 [.int .i64 2, .int .i64 5, .int .i64 7]]],
 .agg [.str [88, 75], .bool false, .vec false 1 [.int .i64 2, .int .i64 3], .vec false 1 [], .vec false 1 [.int .i64 2], .vec false 1 [.vec false 1 [.int .i64 1, .int .i64 4], .vec false 1 [.int .i64 1, .int .i64 3, .int .i64 7], .vec false 1 [.int .i64 2, .int .i64 5, .int .i64 7]]],
 .agg [.str [88, 75], .bool false, .vec false 1 [.int .i64 0, .int .i64 2, .int .i64 3], .vec false 1 [], .vec false 1 [.int .i64 2], .vec false 1 [.vec false 1 [.int .i64 7, .int .i64 1, .int .i64 4], .vec false 1 [.int .i64 1, .int .i64 3, .int .i64 7], .vec false 1 [.int .i64 2, .int .i64 5, .int .i64 7]]],
 .agg [.str [88, 75], .bool false, .vec false 1 [.int .i64 1, .int .i64 2, .int .i64 3], .vec false 1 [], .vec false 1 [.int .i64 2], .vec false 1 [.vec false 1 [.int .i64 1, .int .i64 4, .int .i64 7], .vec false 1 [.int .i64 1, .int .i64 3, .int .i64 7], .vec false 1 [.int .i64 2, .int .i64 5, .int .i64 7]]],
 .agg [.str [88, 75], .bool false, .vec false 1 [.int .i64 0, .int .i64 1, .int .i64 2, .int .i64 3], .vec false 1 [], .vec false 1 [.int .i64 2], .vec false 1 [.vec false 1 [.int .i64 7, .int .i64 1, .int .i64 4, .int .i64 7], .vec false 1 [.int .i64 1, .int .i64 3, .int .i64 7], .vec false 1 [.int .i64 2, .int .i64 5, .int .i64 7]]],
 .agg [.str [88, 88, 102, 97, 108, 108, 98, 97, 99, 107], .bool true, .vec false 1 [], .vec false 1 [.int .i64 1], .vec false 1 [], .vec false 1 [.vec false 1 [.int .i64 1, .int .i64 3, .int .i64 2, .int .i64 4], .vec false 1 [.int .i64 2, .int .i64 5]]]]
theorem zx0 : zt9 = zof := by kernel_rfl
theorem z1c4 : z2e.map z9k = z9j := by kernel_rfl
def idxF : List (List UInt8 × List Int) → List UInt8 → List Int → Nat
 | [], _, _ => 0
 | a :: r, s, l => bif a.1 == s && a.2 == l then 0 else idxF r s l + 1
def z18m : List AV → Nat → Out
 | [], _ => .ret (.tup []) []
 | a :: _, 0 => .ret (.tup [a, .int .i64 0]) []
 | _ :: r, n + 1 => z18m r n
def zzb (s : List UInt8) (l : List Int) : Out := z18m z9j (idxF zof s l)
theorem z143 : (zof.map fun x => zzb x.1 x.2) = zof.map fun x => .ret (.tup [z9k (zgm x.1 x.2), .int .i64 0]) [] := by kernel_rfl
theorem z15m {s : List UInt8} {l : List Int} (h : isW s l = true) : zzb s l = .ret (.tup [z9k (zgm s l), .int .i64 0]) [] := by
 have h1 : (s, l) ∈ zof := by rw [← zx0]; exact of_decide_eq_true h
 exact List.map_inj_left.1 z143 (s, l) h1
def isWT (s : List UInt8) (l : List Int) : Bool := zof.any fun a => a.1 == s && a.2 == l
theorem z183 {s : List UInt8} {l : List Int} : isWT s l = true ↔ isW s l = true := by
 unfold isWT isW;rw [List.any_eq_true, decide_eq_true_eq, zx0];constructor
 ·rintro ⟨⟨a, b⟩, h, h2⟩;simp only [Bool.and_eq_true, beq_iff_eq] at h2;obtain ⟨rfl, rfl⟩ := h2;exact h
 ·intro h;exact ⟨(s, l), h, by simp⟩
theorem zqa : ∀ (l m : List AV), zw (l ++ m) = (zw l && zw m)
 | [], m => by simp [zw]
 | a :: l, m => by rw [List.cons_append, zw, zw, zqa l m, Bool.and_assoc]
mutual
theorem z17q : ∀ a : AV, zw (flA a) = z1a a
 | .agg l => z8g l
 | .any | .raw _ | .int _ _ | .u8 _ | .u32 _ | .u64 _ | .bool _ | .str _ | .b8 _ _ | .w32 _ _ | .w64 _ _ | .n64 _ _ | .ptr _ _ | .pix _ _ _ _ | .sl _ _ _ _ | .vec8 _ _ | .vec _ _ _ | .vecr _ _ _ _ | .slv _ _ _ _ | .vp _ _ | .vpx _ _ _ _ | .fn _ _ _ | .tup _ => Bool.and_true _
theorem z8g : ∀ l : List AV, zw (flL l) = zw l
 | [] => rfl
 | a :: l => by
  show zw (flA a ++ flL l) = (z1a a && zw l);rw [zqa, z17q a, z8g l]
end
def z1cv : List UInt8 := [78, 111, 105, 115, 101, 95]
def z1hk : List UInt8 := [95, 50, 53, 53, 49, 57, 95, 67, 104, 97, 67, 104, 97, 80, 111, 108, 121, 95, 66, 76, 65, 75, 69, 50, 115]
def pskN (n : Int) : List UInt8 := [112, 115, 107, UInt8.ofNat (48 + n).toNat]
def z18n : List (List UInt8) → List UInt8
 | [] => []
 | [a] => a
 | a :: l => a ++ 43 :: z18n l
def z1f (p : Pat) : List UInt8 := z1cv ++ p.base ++ z18n (p.psks.map pskN) ++ z1hk
def zos : List (List UInt8 × Pat) := z2e.map fun p => (z1f p, p)
theorem zfy {p : Pat} (h : p ∈ z2e) : (z1f p, p) ∈ zos := List.mem_map_of_mem (f := fun q => (z1f q, q)) h
end Go.Pat
namespace Go.Shk
open Go Go.V Go.Pat
def RLe (l l' : List AV) : Prop := ∀ ρ I w xs, RL ρ I w l xs → RL ρ I w l' xs
def Re (a b : AV) : Prop := ∀ ρ I w xs, R ρ I w a xs → R ρ I w b xs
theorem RLe.refl (l : List AV) : RLe l l := fun _ _ _ _ h => h
theorem RLe.cons {a b : AV} {l l' : List AV} (h : Re a b) (h' : RLe l l') : RLe (a :: l) (b :: l') := fun _ _ _ _ r => by
 obtain ⟨ys, zs, rfl, q, r2⟩ := z13.1 r;exact z13.2 ⟨ys, zs, rfl, h _ _ _ _ q, h' _ _ _ _ r2⟩
theorem RLe.same {a : AV} {l l' : List AV} (h' : RLe l l') : RLe (a :: l) (a :: l') := RLe.cons (fun _ _ _ _ h => h) h'
theorem Re.of {a b : AV} (ha : z1s a = false) (ha2 : a ≠ .any) (ha3 : szA a = 1) (hb : z1s b = false) (hb2 : b ≠ .any) (h : leV a b) : Re a b := fun ρ I w ys q => by
 have hl := z3m a ys q;rw [ha3] at hl;obtain ⟨v, rfl⟩ : ∃ v, ys = [v] := by
  cases ys with
  | nil => simp at hl
  | cons v t => cases t with
   | nil => exact ⟨v, rfl⟩
   | cons _ _ => simp at hl
 have h1 : rel ρ I w a v := (z89 ha2).2 (by rw [ha]; exact q)
 have h2 := (z89 hb2).1 (h ρ I w v h1);rw [hb] at h2;exact h2
theorem zqc {l l' : List AV} (h : RLe l l') : leV (.agg l) (.agg l') := fun _ _ _ _ r => by
 obtain ⟨cs, h1, h2⟩ := z2v.1 r;exact z2v.2 ⟨cs, h1, h _ _ _ _ h2⟩
theorem RLe.flat {l l' : List AV} (h : RLe (flL l) (flL l')) : leV (.agg l) (.agg l') := fun ρ I w v r => by
 obtain ⟨cs, h1, h2⟩ := z2v.1 r;exact z2v.2 ⟨cs, h1, (z7i l' _).2 (h _ _ _ _ ((z7i l _).1 h2))⟩
def vK (l : List (List UInt8)) : AV := .vec false 32 (l.map fun x => .b8 32 x)
theorem z1b2 (l : List (List UInt8)) : z1a (vK l) = true := by
 show zw _ = true
 induction l with
 | nil => rfl
 | cons a l ih => rw [List.map_cons, zw, ih]; rfl
structure Sh where
 first : Bool
 turn : Int
 dead : Bool
 sh : Bool
 ck : List UInt8
 n : UInt64
 ch : List UInt8
 hs : List UInt8
 own : List UInt8
 fr : List UInt8
 has : Bool
 their : List UInt8
 knows : Bool
 newest : List UInt8
 saw : Bool
 psks : List (List UInt8)
 used : Int
def shA (p : Pat) (s : Sh) : AV :=
 .agg [z9k p, .bool s.first, .int .i64 s.turn, .bool s.dead, .agg [.agg [.bool s.sh, .b8 32 s.ck, .u64 s.n], .b8 32 s.ch, .b8 32 s.hs], .b8 32 s.own, .b8 32 s.fr, .bool s.has, .b8 32 s.their, .bool s.knows, .b8 32 s.newest, .bool s.saw, vK s.psks, .int .i64 s.used]
theorem zt7 (p : Pat) (s : Sh) : z1a (shA p s) = true := by
 show zw _ = true;simp only [zw, z1a, zd5, z1b2, Bool.and_self]
theorem Re.str (s : List UInt8) : Re (.str s) (.str s) := fun _ _ _ _ h => h
end Go.Shk
namespace Go.V
open Go
section
variable {P : Program} {G : Env P} {R : ROps G} {T : Ctr G}
def z18s (e : AV) (v : AV) (H : zc) : Prop := (zae H v).1 = true ∧ (zae H v).2.1 = e
def z1ge (q : AV → Prop) (v : AV) (H : zc) : Prop := (zae H v).1 = true ∧ q (zae H v).2.1
theorem HCall.of_walkP (L : FuncId → Nat → LPlan) (n : Nat) {f : FuncId} {args : List AV} {q : AV → Prop} {w0 : AV} (hp : zw args = true) (h : z5m G R T.C L n f args [] (z1ge q)) (hq : ∀ x, q x → leV x w0) (hw : z1a w0 = true) :
  HCall G f args (.ret w0 []) := by
 refine ⟨hp, by simp [Out.okB, z41 _ hw], fun ρ I w vs c r => (ACall.of_walkH h ρ I w vs c r).mono ?_⟩
 rintro e w' ⟨x, rfl, ρ', I', v, H', gd, c', hr, h1, h2⟩;obtain ⟨I2, f1, f2, f3, f4⟩ := zk6 v I' H' c' h1;obtain ⟨c2, g2⟩ := z6v f2 0 (fun e he => by simp at he)
 exact ⟨x, rfl, z74 0 ρ', I2, w0, [], g2 (gd.trans f1) (fun id h => absurd (c.dom id h) (by simp)) (Nat.le_refl _), c2, z6y hw (hq _ h2 _ _ _ _ (f4 _ hr)), ⟨rfl, rfl⟩⟩
theorem HCall.of_walkE (L : FuncId → Nat → LPlan) (n : Nat) {f : FuncId} {args : List AV} {w0 : AV} (hp : zw args = true) (h : z5m G R T.C L n f args [] (z18s w0)) (hw : z1a w0 = true) :
  HCall G f args (.ret w0 []) :=
 HCall.of_walkP L n (q := fun x => x = w0) hp h (fun x hx => by rw [hx]; exact leV.refl _) hw
def zr5 {α : Type} (e : α → AV) : List α → Prop
 | [] => True
 | a :: r => (true = true ∧ e a = e a) ∧ zr5 e r
theorem zu7 {α : Type} (e : α → AV) : ∀ l : List α, zr5 e l
 | [] => trivial
 | _ :: r => ⟨⟨rfl, rfl⟩, zu7 e r⟩
theorem z172 {α : Type} {W : α → Prop} {e : α → AV} {l : List α} (h : zb9 W l = zr5 e l) : ∀ a ∈ l, W a := zlk (h.symm ▸ zu7 e l)
end
end Go.V
namespace Go.Shk
open Go Go.V Go.Pat
def keyF (l : List (List UInt8)) (i : Nat) : List AV := [.b8 32 (l.getD i [])]
def vKs (l : List (List UInt8)) : AV := .vecr false 32 l.length (keyF l)
def shC (p : Pat) (s : Sh) : List AV := [.str p.base, .bool p.late, .vecr false 1 p.psks.length (intF p.psks), .vecr false 1 p.pre0.length (intF p.pre0), .vecr false 1 p.pre1.length (intF p.pre1), .vecr false 1 p.turns.length (trF p.turns), .bool s.first, .int .i64 s.turn, .bool s.dead, .bool s.sh, .b8 32 s.ck, .u64 s.n, .b8 32 s.ch, .b8 32 s.hs, .b8 32 s.own, .b8 32 s.fr, .bool s.has, .b8 32 s.their, .bool s.knows, .b8 32 s.newest, .bool s.saw, .vecr false 32 s.psks.length (keyF s.psks), .int .i64 s.used]
def shV (p : Pat) (s : Sh) : AV := .agg (shC p s)
theorem z1e3 (l : List (List UInt8)) : leV (vK l) (vKs l) := by
 have h := zoc (full := false) (k := 32) (rows := l.map fun x => AV.b8 32 x) fun i hi => by
  unfold z4m;rw [List.length_map] at hi;rw [List.getD_eq_getElem?_getD, List.getElem?_map, List.getElem?_eq_getElem hi]; rfl
 refine leV.trans h ?_;unfold vKs;rw [List.length_map];refine z61 (by simp) fun i hi => leR.of_eq rfl ?_
 unfold z4m keyF;rw [List.getD_eq_getElem?_getD, List.getElem?_map, List.getElem?_eq_getElem hi, List.getD_eq_getElem?_getD, List.getElem?_eq_getElem hi]; rfl
theorem z1an (l : List (List UInt8)) : leV (vKs l) (vK l) := by
 have h := zij (k := 32) (n := l.length) (f := keyF l) (g := fun i => .b8 32 (l.getD i [])) (fun _ _ => rfl) (fun _ _ _ _ _ _ r => by
  obtain ⟨ys, zs, rfl, h1, h2⟩ := z13.1 r;rw [zui.1 h2, List.append_nil]; exact h1)
 have e : ((List.range l.length).map fun i => AV.b8 32 (l.getD i [])) = l.map fun x => AV.b8 32 x := map_range (fun x => AV.b8 32 x) [] l _ fun _ _ => rfl
 rw [e] at h;exact h
theorem zj7 (l : List Int) : z5q (vL l) = true ∧ z5w (vL l) = l := by
 unfold vL;refine ⟨?_, ?_⟩
 ·simp only [z5q, beq_self_eq_true, Bool.true_and, List.all_eq_true, List.mem_map, forall_exists_index, and_imp, forall_apply_eq_imp_iff₂];exact fun _ _ => rfl
 ·rw [z5w, List.map_map]
  conv => rhs; rw [← List.map_id l]
  exact List.map_congr_left fun _ _ => rfl
theorem ztl (t : List (List Int)) : ze2 (vLL t) = true ∧ zgu (vLL t) = t := by
 unfold vLL;refine ⟨?_, ?_⟩
 ·simp only [ze2, beq_self_eq_true, Bool.true_and, List.all_eq_true, List.mem_map, forall_exists_index, and_imp, forall_apply_eq_imp_iff₂];exact fun l _ => (zj7 l).1
 ·rw [zgu, List.map_map]
  conv => rhs; rw [← List.map_id t]
  exact List.map_congr_left fun l _ => (zj7 l).2
theorem z8h (l : List Int) : leV (vL l) (vI l) := by
 have := za1 (zj7 l).1
 rwa [(zj7 l).2] at this
theorem zxr (l : List (List Int)) : leV (vLL l) (vT l) := by
 have := zx2 (ztl l).1
 rwa [(ztl l).2] at this
theorem z1hm (p : Pat) (s : Sh) : leV (shV p s) (shA p s) :=
 RLe.flat (l := shC p s) (RLe.same (RLe.same
  (RLe.cons (Re.of rfl (by simp) rfl rfl (by simp [vL]) (z8y _)) (RLe.cons (Re.of rfl (by simp) rfl rfl (by simp [vL]) (z8y _)) (RLe.cons (Re.of rfl (by simp) rfl rfl (by simp [vL]) (z8y _)) (RLe.cons (Re.of rfl (by simp) rfl rfl (by simp [vLL]) (zwn _))
  (RLe.same (RLe.same (RLe.same (RLe.same (RLe.same (RLe.same (RLe.same (RLe.same (RLe.same (RLe.same (RLe.same (RLe.same (RLe.same (RLe.same (RLe.same (RLe.cons (Re.of rfl (by simp) rfl rfl (by simp [vK]) (z1an _)) (RLe.refl _)))))))))))))))))))))))
theorem z1hh (p : Pat) (s : Sh) : leV (shA p s) (shV p s) :=
 RLe.flat (l' := shC p s) (RLe.same (RLe.same
  (RLe.cons (Re.of (a := vL _) rfl (by simp [vL]) rfl rfl (by simp) (z8h _)) (RLe.cons (Re.of (a := vL _) rfl (by simp [vL]) rfl rfl (by simp) (z8h _)) (RLe.cons (Re.of (a := vL _) rfl (by simp [vL]) rfl rfl (by simp) (z8h _)) (RLe.cons (Re.of (a := vLL _) rfl (by simp [vLL]) rfl rfl (by simp) (zxr _))
  (RLe.same (RLe.same (RLe.same (RLe.same (RLe.same (RLe.same (RLe.same (RLe.same (RLe.same (RLe.same (RLe.same (RLe.same (RLe.same (RLe.same (RLe.same (RLe.cons (Re.of (a := vK _) rfl (by simp [vK]) rfl rfl (by simp) (z1e3 _)) (RLe.refl _)))))))))))))))))))))))
def z1gc (l : List (List UInt8)) : Prop := ∀ k ∈ l, k.length = 32
theorem zsv {a b : List (List UInt8)} (hl : a.length = b.length) (h : keyF a = keyF b) : a = b := by
 apply List.ext_getElem hl;intro i h1 h2;have := congrFun h i;unfold keyF at this;simp only [List.getD_eq_getElem?_getD, List.getElem?_eq_getElem h1, List.getElem?_eq_getElem h2, Option.getD_some, List.cons.injEq, AV.b8.injEq, true_and, and_true] at this;exact this
theorem zgt {a b : List Int} (hl : a.length = b.length) (h : intF a = intF b) : a = b := by
 apply List.ext_getElem hl;intro i h1 h2;have := congrFun h i;unfold intF at this;simp only [List.getD_eq_getElem?_getD, List.getElem?_eq_getElem h1, List.getElem?_eq_getElem h2, Option.getD_some, List.cons.injEq, AV.int.injEq, true_and, and_true] at this;exact this
theorem z1c6 {a b : List (List Int)} (hl : a.length = b.length) (h : trF a = trF b) : a = b := by
 apply List.ext_getElem hl;intro i h1 h2;have := congrFun h i;unfold trF at this;simp only [List.getD_eq_getElem?_getD, List.getElem?_eq_getElem h1, List.getElem?_eq_getElem h2, Option.getD_some, List.cons.injEq, AV.vecr.injEq, true_and, and_true] at this;exact zgt this.1 this.2
theorem z1aj {p q : Pat} {s t : Sh} (h : shC p s = shC q t) : p = q ∧ s = t := by
 unfold shC at h;simp only [List.cons.injEq, AV.str.injEq, AV.bool.injEq, AV.vecr.injEq, AV.int.injEq, AV.b8.injEq, AV.u64.injEq, true_and, and_true] at h;obtain ⟨h1, h2, ⟨a1, a2⟩, ⟨b1, b2⟩, ⟨c1, c2⟩, ⟨d1, d2⟩, e1, e2, e3, e4, e5, e6, e7, e8, e9, e10, e11, e12, e13, e14, e15, ⟨f1, f2⟩, e16⟩ := h;cases p; cases q; cases s; cases t
 simp only at *;refine ⟨?_, ?_⟩
 ·rw [h1, h2, zgt a1 a2, zgt b1 b2, zgt c1 c2, z1c6 d1 d2]
 ·rw [e1, e2, e3, e4, e5, e6, e7, e8, e9, e10, e11, e12, e13, e14, e15, zsv f1 f2, e16]
noncomputable def z1k (c : List AV) : Pat × Sh := @dite _ (∃ x : Pat × Sh, c = shC x.1 x.2) (Classical.propDecidable _) (fun h => Classical.choose h) (fun _ => default)
 where default : Pat × Sh := (Inhabited.default, ⟨false, 0, false, false, [], 0, [], [], [], [], false, [], false, [], false, [], 0⟩)
theorem z7n (p : Pat) (s : Sh) : z1k (shC p s) = (p, s) := by
 have h : ∃ x : Pat × Sh, shC p s = shC x.1 x.2 := ⟨(p, s), rfl⟩;unfold z1k;rw [dif_pos h];obtain ⟨h1, h2⟩ := z1aj (Classical.choose_spec h);exact Prod.ext h1.symm h2.symm
noncomputable def isPF (c : List AV) : Bool := yes (∃ p ∈ z2e, c = zrr p)
noncomputable def isP : List AV → Bool := (zf isPF).val
theorem zjo {c : List AV} : isP c = true ↔ ∃ p ∈ z2e, c = zrr p := by rw [isP, (zf isPF).property]; exact zep
noncomputable def z190 (c : List AV) : Bool := yes (∃ p s, p ∈ z2e ∧ s.psks.length = p.psks.length ∧ c = shC p s)
noncomputable def isSh : List AV → Bool := (zf z190).val
theorem zsf {c : List AV} : isSh c = true ↔ ∃ p s, p ∈ z2e ∧ s.psks.length = p.psks.length ∧ c = shC p s := by rw [isSh, (zf z190).property]; exact zep
end Go.Shk