import Derived.Test.YtehaohfglolljaaGreatDoorZzaj
import Derived.KernelRfl
set_option linter.unusedSimpArgs false
set_option linter.unusedVariables false
namespace Go.Pat
open Go Go.V
set_option maxRecDepth 100000
def tabW : List (List UInt8 × List Int) := [
 ([78, 78], []),
 ([78, 78], [0]),
 ([78, 78], [1]),
 ([78, 78], [0, 1]),
 ([78, 78], [2]),
 ([78, 78], [0, 2]),
 ([78, 78], [1, 2]),
 ([78, 78], [0, 1, 2]),
 ([78, 75], []),
 ([78, 75], [0]),
 ([78, 75], [1]),
 ([78, 75], [0, 1]),
 ([78, 75], [2]),
 ([78, 75], [0, 2]),
 ([78, 75], [1, 2]),
 ([78, 75], [0, 1, 2]),
 ([73, 75], []),
 ([73, 75], [0]),
 ([73, 75], [1]),
 ([73, 75], [0, 1]),
 ([73, 75], [2]),
 ([73, 75], [0, 2]),
 ([73, 75], [1, 2]),
 ([73, 75], [0, 1, 2]),
 ([75, 75], []),
 ([75, 75], [0]),
 ([75, 75], [1]),
 ([75, 75], [0, 1]),
 ([75, 75], [2]),
 ([75, 75], [0, 2]),
 ([75, 75], [1, 2]),
 ([75, 75], [0, 1, 2]),
 ([88, 88], []),
 ([88, 88], [0]),
 ([88, 88], [1]),
 ([88, 88], [0, 1]),
 ([88, 88], [2]),
 ([88, 88], [0, 2]),
 ([88, 88], [1, 2]),
 ([88, 88], [0, 1, 2]),
 ([88, 88], [3]),
 ([88, 88], [0, 3]),
 ([88, 88], [1, 3]),
 ([88, 88], [0, 1, 3]),
 ([88, 88], [2, 3]),
 ([88, 88], [0, 2, 3]),
 ([88, 88], [1, 2, 3]),
 ([88, 88], [0, 1, 2, 3]),
 ([88, 75], []),
 ([88, 75], [0]),
 ([88, 75], [1]),
 ([88, 75], [0, 1]),
 ([88, 75], [2]),
 ([88, 75], [0, 2]),
 ([88, 75], [1, 2]),
 ([88, 75], [0, 1, 2]),
 ([88, 75], [3]),
 ([88, 75], [0, 3]),
 ([88, 75], [1, 3]),
 ([88, 75], [0, 1, 3]),
 ([88, 75], [2, 3]),
 ([88, 75], [0, 2, 3]),
 ([88, 75], [1, 2, 3]),
 ([88, 75], [0, 1, 2, 3]),
 ([88, 88, 102, 97, 108, 108, 98, 97, 99, 107], [])]
def tabP : List Pat := [
 ⟨[78, 78], false, [], [], [], [[1], [1, 3]]⟩,
 ⟨[78, 78], false, [0], [], [], [[7, 1], [1, 3]]⟩,
 ⟨[78, 78], false, [1], [], [], [[1, 7], [1, 3]]⟩,
 ⟨[78, 78], false, [0, 1], [], [], [[7, 1, 7], [1, 3]]⟩,
 ⟨[78, 78], false, [2], [], [], [[1], [1, 3, 7]]⟩,
 ⟨[78, 78], false, [0, 2], [], [], [[7, 1], [1, 3, 7]]⟩,
 ⟨[78, 78], false, [1, 2], [], [], [[1, 7], [1, 3, 7]]⟩,
 ⟨[78, 78], false, [0, 1, 2], [], [], [[7, 1, 7], [1, 3, 7]]⟩,
 ⟨[78, 75], false, [], [], [2], [[1, 4], [1, 3]]⟩,
 ⟨[78, 75], false, [0], [], [2], [[7, 1, 4], [1, 3]]⟩,
 ⟨[78, 75], false, [1], [], [2], [[1, 4, 7], [1, 3]]⟩,
 ⟨[78, 75], false, [0, 1], [], [2], [[7, 1, 4, 7], [1, 3]]⟩,
 ⟨[78, 75], false, [2], [], [2], [[1, 4], [1, 3, 7]]⟩,
 ⟨[78, 75], false, [0, 2], [], [2], [[7, 1, 4], [1, 3, 7]]⟩,
 ⟨[78, 75], false, [1, 2], [], [2], [[1, 4, 7], [1, 3, 7]]⟩,
 ⟨[78, 75], false, [0, 1, 2], [], [2], [[7, 1, 4, 7], [1, 3, 7]]⟩,
 ⟨[73, 75], false, [], [], [2], [[1, 4, 2, 6], [1, 3, 5]]⟩,
 ⟨[73, 75], false, [0], [], [2], [[7, 1, 4, 2, 6], [1, 3, 5]]⟩,
 ⟨[73, 75], false, [1], [], [2], [[1, 4, 2, 6, 7], [1, 3, 5]]⟩,
 ⟨[73, 75], false, [0, 1], [], [2], [[7, 1, 4, 2, 6, 7], [1, 3, 5]]⟩,
 ⟨[73, 75], false, [2], [], [2], [[1, 4, 2, 6], [1, 3, 5, 7]]⟩,
 ⟨[73, 75], false, [0, 2], [], [2], [[7, 1, 4, 2, 6], [1, 3, 5, 7]]⟩,
 ⟨[73, 75], false, [1, 2], [], [2], [[1, 4, 2, 6, 7], [1, 3, 5, 7]]⟩,
 ⟨[73, 75], false, [0, 1, 2], [], [2], [[7, 1, 4, 2, 6, 7], [1, 3, 5, 7]]⟩,
 ⟨[75, 75], false, [], [2], [2], [[1, 4, 6], [1, 3, 5]]⟩,
 ⟨[75, 75], false, [0], [2], [2], [[7, 1, 4, 6], [1, 3, 5]]⟩,
 ⟨[75, 75], false, [1], [2], [2], [[1, 4, 6, 7], [1, 3, 5]]⟩,
 ⟨[75, 75], false, [0, 1], [2], [2], [[7, 1, 4, 6, 7], [1, 3, 5]]⟩,
 ⟨[75, 75], false, [2], [2], [2], [[1, 4, 6], [1, 3, 5, 7]]⟩,
 ⟨[75, 75], false, [0, 2], [2], [2], [[7, 1, 4, 6], [1, 3, 5, 7]]⟩,
 ⟨[75, 75], false, [1, 2], [2], [2], [[1, 4, 6, 7], [1, 3, 5, 7]]⟩,
 ⟨[75, 75], false, [0, 1, 2], [2], [2], [[7, 1, 4, 6, 7], [1, 3, 5, 7]]⟩,
 ⟨[88, 88], false, [], [], [], [[1], [1, 3, 2, 4], [2, 5]]⟩,
 ⟨[88, 88], false, [0], [], [], [[7, 1], [1, 3, 2, 4], [2, 5]]⟩,
 ⟨[88, 88], false, [1], [], [], [[1, 7], [1, 3, 2, 4], [2, 5]]⟩,
 ⟨[88, 88], false, [0, 1], [], [], [[7, 1, 7], [1, 3, 2, 4], [2, 5]]⟩,
 ⟨[88, 88], false, [2], [], [], [[1], [1, 3, 2, 4, 7], [2, 5]]⟩,
 ⟨[88, 88], false, [0, 2], [], [], [[7, 1], [1, 3, 2, 4, 7], [2, 5]]⟩,
 ⟨[88, 88], false, [1, 2], [], [], [[1, 7], [1, 3, 2, 4, 7], [2, 5]]⟩,
 ⟨[88, 88], false, [0, 1, 2], [], [], [[7, 1, 7], [1, 3, 2, 4, 7], [2, 5]]⟩,
 ⟨[88, 88], false, [3], [], [], [[1], [1, 3, 2, 4], [2, 5, 7]]⟩,
 ⟨[88, 88], false, [0, 3], [], [], [[7, 1], [1, 3, 2, 4], [2, 5, 7]]⟩,
 ⟨[88, 88], false, [1, 3], [], [], [[1, 7], [1, 3, 2, 4], [2, 5, 7]]⟩,
 ⟨[88, 88], false, [0, 1, 3], [], [], [[7, 1, 7], [1, 3, 2, 4], [2, 5, 7]]⟩,
 ⟨[88, 88], false, [2, 3], [], [], [[1], [1, 3, 2, 4, 7], [2, 5, 7]]⟩,
 ⟨[88, 88], false, [0, 2, 3], [], [], [[7, 1], [1, 3, 2, 4, 7], [2, 5, 7]]⟩,
 ⟨[88, 88], false, [1, 2, 3], [], [], [[1, 7], [1, 3, 2, 4, 7], [2, 5, 7]]⟩,
 ⟨[88, 88], false, [0, 1, 2, 3], [], [], [[7, 1, 7], [1, 3, 2, 4, 7], [2, 5, 7]]⟩,
 ⟨[88, 75], false, [], [], [2], [[1, 4], [1, 3], [2, 5]]⟩,
 ⟨[88, 75], false, [0], [], [2], [[7, 1, 4], [1, 3], [2, 5]]⟩,
 ⟨[88, 75], false, [1], [], [2], [[1, 4, 7], [1, 3], [2, 5]]⟩,
 ⟨[88, 75], false, [0, 1], [], [2], [[7, 1, 4, 7], [1, 3], [2, 5]]⟩,
 ⟨[88, 75], false, [2], [], [2], [[1, 4], [1, 3, 7], [2, 5]]⟩,
 ⟨[88, 75], false, [0, 2], [], [2], [[7, 1, 4], [1, 3, 7], [2, 5]]⟩,
 ⟨[88, 75], false, [1, 2], [], [2], [[1, 4, 7], [1, 3, 7], [2, 5]]⟩,
 ⟨[88, 75], false, [0, 1, 2], [], [2], [[7, 1, 4, 7], [1, 3, 7], [2, 5]]⟩,
 ⟨[88, 75], false, [3], [], [2], [[1, 4], [1, 3], [2, 5, 7]]⟩,
 ⟨[88, 75], false, [0, 3], [], [2], [[7, 1, 4], [1, 3], [2, 5, 7]]⟩,
 ⟨[88, 75], false, [1, 3], [], [2], [[1, 4, 7], [1, 3], [2, 5, 7]]⟩,
 ⟨[88, 75], false, [0, 1, 3], [], [2], [[7, 1, 4, 7], [1, 3], [2, 5, 7]]⟩,
 ⟨[88, 75], false, [2, 3], [], [2], [[1, 4], [1, 3, 7], [2, 5, 7]]⟩,
 ⟨[88, 75], false, [0, 2, 3], [], [2], [[7, 1, 4], [1, 3, 7], [2, 5, 7]]⟩,
 ⟨[88, 75], false, [1, 2, 3], [], [2], [[1, 4, 7], [1, 3, 7], [2, 5, 7]]⟩,
 ⟨[88, 75], false, [0, 1, 2, 3], [], [2], [[7, 1, 4, 7], [1, 3, 7], [2, 5, 7]]⟩,
 ⟨[88, 88, 102, 97, 108, 108, 98, 97, 99, 107], true, [], [1], [], [[1, 3, 2, 4], [2, 5]]⟩]
def tabA : List AV := [
 .agg [.str [78, 78], .bool false, .vec false 1 [], .vec false 1 [], .vec false 1 [], .vec false 1 [.vec false 1 [.int .i64 1], .vec false 1 [.int .i64 1, .int .i64 3]]],
 .agg [.str [78, 78], .bool false, .vec false 1 [.int .i64 0], .vec false 1 [], .vec false 1 [], .vec false 1 [.vec false 1 [.int .i64 7, .int .i64 1], .vec false 1 [.int .i64 1, .int .i64 3]]],
 .agg [.str [78, 78], .bool false, .vec false 1 [.int .i64 1], .vec false 1 [], .vec false 1 [], .vec false 1 [.vec false 1 [.int .i64 1, .int .i64 7], .vec false 1 [.int .i64 1, .int .i64 3]]],
 .agg [.str [78, 78], .bool false, .vec false 1 [.int .i64 0, .int .i64 1], .vec false 1 [], .vec false 1 [], .vec false 1 [.vec false 1 [.int .i64 7, .int .i64 1, .int .i64 7], .vec false 1 [.int .i64 1, .int .i64 3]]],
 .agg [.str [78, 78], .bool false, .vec false 1 [.int .i64 2], .vec false 1 [], .vec false 1 [], .vec false 1 [.vec false 1 [.int .i64 1], .vec false 1 [.int .i64 1, .int .i64 3, .int .i64 7]]],
 .agg [.str [78, 78], .bool false, .vec false 1 [.int .i64 0, .int .i64 2], .vec false 1 [], .vec false 1 [], .vec false 1 [.vec false 1 [.int .i64 7, .int .i64 1], .vec false 1 [.int .i64 1, .int .i64 3, .int .i64 7]]],
 .agg [.str [78, 78], .bool false, .vec false 1 [.int .i64 1, .int .i64 2], .vec false 1 [], .vec false 1 [], .vec false 1 [.vec false 1 [.int .i64 1, .int .i64 7], .vec false 1 [.int .i64 1, .int .i64 3, .int .i64 7]]],
 .agg [.str [78, 78], .bool false, .vec false 1 [.int .i64 0, .int .i64 1, .int .i64 2], .vec false 1 [], .vec false 1 [], .vec false 1 [.vec false 1 [.int .i64 7, .int .i64 1, .int .i64 7], .vec false 1 [.int .i64 1, .int .i64 3, .int .i64 7]]],
 .agg [.str [78, 75], .bool false, .vec false 1 [], .vec false 1 [], .vec false 1 [.int .i64 2], .vec false 1 [.vec false 1 [.int .i64 1, .int .i64 4], .vec false 1 [.int .i64 1, .int .i64 3]]],
 .agg [.str [78, 75], .bool false, .vec false 1 [.int .i64 0], .vec false 1 [], .vec false 1 [.int .i64 2], .vec false 1 [.vec false 1 [.int .i64 7, .int .i64 1, .int .i64 4], .vec false 1 [.int .i64 1, .int .i64 3]]],
 .agg [.str [78, 75], .bool false, .vec false 1 [.int .i64 1], .vec false 1 [], .vec false 1 [.int .i64 2], .vec false 1 [.vec false 1 [.int .i64 1, .int .i64 4, .int .i64 7], .vec false 1 [.int .i64 1, .int .i64 3]]],
 .agg [.str [78, 75], .bool false, .vec false 1 [.int .i64 0, .int .i64 1], .vec false 1 [], .vec false 1 [.int .i64 2], .vec false 1 [.vec false 1 [.int .i64 7, .int .i64 1, .int .i64 4, .int .i64 7], .vec false 1 [.int .i64 1, .int .i64 3]]],
 .agg [.str [78, 75], .bool false, .vec false 1 [.int .i64 2], .vec false 1 [], .vec false 1 [.int .i64 2], .vec false 1 [.vec false 1 [.int .i64 1, .int .i64 4], .vec false 1 [.int .i64 1, .int .i64 3, .int .i64 7]]],
 .agg [.str [78, 75], .bool false, .vec false 1 [.int .i64 0, .int .i64 2], .vec false 1 [], .vec false 1 [.int .i64 2], .vec false 1 [.vec false 1 [.int .i64 7, .int .i64 1, .int .i64 4], .vec false 1 [.int .i64 1, .int .i64 3, .int .i64 7]]],
 .agg [.str [78, 75], .bool false, .vec false 1 [.int .i64 1, .int .i64 2], .vec false 1 [], .vec false 1 [.int .i64 2], .vec false 1 [.vec false 1 [.int .i64 1, .int .i64 4, .int .i64 7], .vec false 1 [.int .i64 1, .int .i64 3, .int .i64 7]]],
 .agg [.str [78, 75], .bool false, .vec false 1 [.int .i64 0, .int .i64 1, .int .i64 2], .vec false 1 [], .vec false 1 [.int .i64 2], .vec false 1 [.vec false 1 [.int .i64 7, .int .i64 1, .int .i64 4, .int .i64 7], .vec false 1 [.int .i64 1, .int .i64 3, .int .i64 7]]],
 .agg [.str [73, 75], .bool false, .vec false 1 [], .vec false 1 [], .vec false 1 [.int .i64 2], .vec false 1 [.vec false 1 [.int .i64 1, .int .i64 4, .int .i64 2, .int .i64 6], .vec false 1 [.int .i64 1, .int .i64 3, .int .i64 5]]],
 .agg [.str [73, 75], .bool false, .vec false 1 [.int .i64 0], .vec false 1 [], .vec false 1 [.int .i64 2], .vec false 1 [.vec false 1 [.int .i64 7, .int .i64 1, .int .i64 4, .int .i64 2, .int .i64 6], .vec false 1 [.int .i64 1, .int .i64 3, .int .i64 5]]],
 .agg [.str [73, 75], .bool false, .vec false 1 [.int .i64 1], .vec false 1 [], .vec false 1 [.int .i64 2], .vec false 1 [.vec false 1 [.int .i64 1, .int .i64 4, .int .i64 2, .int .i64 6, .int .i64 7], .vec false 1 [.int .i64 1, .int .i64 3, .int .i64 5]]],
 .agg [.str [73, 75], .bool false, .vec false 1 [.int .i64 0, .int .i64 1], .vec false 1 [], .vec false 1 [.int .i64 2], .vec false 1 [.vec false 1 [.int .i64 7, .int .i64 1, .int .i64 4, .int .i64 2, .int .i64 6, .int .i64 7], .vec false 1 [.int .i64 1, .int .i64 3, .int .i64 5]]],
 .agg [.str [73, 75], .bool false, .vec false 1 [.int .i64 2], .vec false 1 [], .vec false 1 [.int .i64 2], .vec false 1 [.vec false 1 [.int .i64 1, .int .i64 4, .int .i64 2, .int .i64 6], .vec false 1 [.int .i64 1, .int .i64 3, .int .i64 5, .int .i64 7]]],
 .agg [.str [73, 75], .bool false, .vec false 1 [.int .i64 0, .int .i64 2], .vec false 1 [], .vec false 1 [.int .i64 2], .vec false 1 [.vec false 1 [.int .i64 7, .int .i64 1, .int .i64 4, .int .i64 2, .int .i64 6], .vec false 1 [.int .i64 1, .int .i64 3, .int .i64 5, .int .i64 7]]],
 .agg [.str [73, 75], .bool false, .vec false 1 [.int .i64 1, .int .i64 2], .vec false 1 [], .vec false 1 [.int .i64 2], .vec false 1 [.vec false 1 [.int .i64 1, .int .i64 4, .int .i64 2, .int .i64 6, .int .i64 7], .vec false 1 [.int .i64 1, .int .i64 3, .int .i64 5, .int .i64 7]]],
 .agg [.str [73, 75], .bool false, .vec false 1 [.int .i64 0, .int .i64 1, .int .i64 2], .vec false 1 [], .vec false 1 [.int .i64 2], .vec false 1 [.vec false 1 [.int .i64 7, .int .i64 1, .int .i64 4, .int .i64 2, .int .i64 6, .int .i64 7], .vec false 1 [.int .i64 1, .int .i64 3, .int .i64 5, .int .i64 7]]],
 .agg [.str [75, 75], .bool false, .vec false 1 [], .vec false 1 [.int .i64 2], .vec false 1 [.int .i64 2], .vec false 1 [.vec false 1 [.int .i64 1, .int .i64 4, .int .i64 6], .vec false 1 [.int .i64 1, .int .i64 3, .int .i64 5]]],
 .agg [.str [75, 75], .bool false, .vec false 1 [.int .i64 0], .vec false 1 [.int .i64 2], .vec false 1 [.int .i64 2], .vec false 1 [.vec false 1 [.int .i64 7, .int .i64 1, .int .i64 4, .int .i64 6], .vec false 1 [.int .i64 1, .int .i64 3, .int .i64 5]]],
 .agg [.str [75, 75], .bool false, .vec false 1 [.int .i64 1], .vec false 1 [.int .i64 2], .vec false 1 [.int .i64 2], .vec false 1 [.vec false 1 [.int .i64 1, .int .i64 4, .int .i64 6, .int .i64 7], .vec false 1 [.int .i64 1, .int .i64 3, .int .i64 5]]],
 .agg [.str [75, 75], .bool false, .vec false 1 [.int .i64 0, .int .i64 1], .vec false 1 [.int .i64 2], .vec false 1 [.int .i64 2], .vec false 1 [.vec false 1 [.int .i64 7, .int .i64 1, .int .i64 4, .int .i64 6, .int .i64 7], .vec false 1 [.int .i64 1, .int .i64 3, .int .i64 5]]],
 .agg [.str [75, 75], .bool false, .vec false 1 [.int .i64 2], .vec false 1 [.int .i64 2], .vec false 1 [.int .i64 2], .vec false 1 [.vec false 1 [.int .i64 1, .int .i64 4, .int .i64 6], .vec false 1 [.int .i64 1, .int .i64 3, .int .i64 5, .int .i64 7]]],
 .agg [.str [75, 75], .bool false, .vec false 1 [.int .i64 0, .int .i64 2], .vec false 1 [.int .i64 2], .vec false 1 [.int .i64 2], .vec false 1 [.vec false 1 [.int .i64 7, .int .i64 1, .int .i64 4, .int .i64 6], .vec false 1 [.int .i64 1, .int .i64 3, .int .i64 5, .int .i64 7]]],
 .agg [.str [75, 75], .bool false, .vec false 1 [.int .i64 1, .int .i64 2], .vec false 1 [.int .i64 2], .vec false 1 [.int .i64 2], .vec false 1 [.vec false 1 [.int .i64 1, .int .i64 4, .int .i64 6, .int .i64 7], .vec false 1 [.int .i64 1, .int .i64 3, .int .i64 5, .int .i64 7]]],
 .agg [.str [75, 75], .bool false, .vec false 1 [.int .i64 0, .int .i64 1, .int .i64 2], .vec false 1 [.int .i64 2], .vec false 1 [.int .i64 2], .vec false 1 [.vec false 1 [.int .i64 7, .int .i64 1, .int .i64 4, .int .i64 6, .int .i64 7], .vec false 1 [.int .i64 1, .int .i64 3, .int .i64 5, .int .i64 7]]],
 .agg [.str [88, 88], .bool false, .vec false 1 [], .vec false 1 [], .vec false 1 [], .vec false 1 [.vec false 1 [.int .i64 1], .vec false 1 [.int .i64 1, .int .i64 3, .int .i64 2, .int .i64 4], .vec false 1 [.int .i64 2, .int .i64 5]]],
 .agg [.str [88, 88], .bool false, .vec false 1 [.int .i64 0], .vec false 1 [], .vec false 1 [], .vec false 1 [.vec false 1 [.int .i64 7, .int .i64 1], .vec false 1 [.int .i64 1, .int .i64 3, .int .i64 2, .int .i64 4], .vec false 1 [.int .i64 2, .int .i64 5]]],
 .agg [.str [88, 88], .bool false, .vec false 1 [.int .i64 1], .vec false 1 [], .vec false 1 [], .vec false 1 [.vec false 1 [.int .i64 1, .int .i64 7], .vec false 1 [.int .i64 1, .int .i64 3, .int .i64 2, .int .i64 4], .vec false 1 [.int .i64 2, .int .i64 5]]],
 .agg [.str [88, 88], .bool false, .vec false 1 [.int .i64 0, .int .i64 1], .vec false 1 [], .vec false 1 [], .vec false 1 [.vec false 1 [.int .i64 7, .int .i64 1, .int .i64 7], .vec false 1 [.int .i64 1, .int .i64 3, .int .i64 2, .int .i64 4], .vec false 1 [.int .i64 2, .int .i64 5]]],
 .agg [.str [88, 88], .bool false, .vec false 1 [.int .i64 2], .vec false 1 [], .vec false 1 [], .vec false 1 [.vec false 1 [.int .i64 1], .vec false 1 [.int .i64 1, .int .i64 3, .int .i64 2, .int .i64 4, .int .i64 7], .vec false 1 [.int .i64 2, .int .i64 5]]],
 .agg [.str [88, 88], .bool false, .vec false 1 [.int .i64 0, .int .i64 2], .vec false 1 [], .vec false 1 [], .vec false 1 [.vec false 1 [.int .i64 7, .int .i64 1], .vec false 1 [.int .i64 1, .int .i64 3, .int .i64 2, .int .i64 4, .int .i64 7], .vec false 1 [.int .i64 2, .int .i64 5]]],
 .agg [.str [88, 88], .bool false, .vec false 1 [.int .i64 1, .int .i64 2], .vec false 1 [], .vec false 1 [], .vec false 1 [.vec false 1 [.int .i64 1, .int .i64 7], .vec false 1 [.int .i64 1, .int .i64 3, .int .i64 2, .int .i64 4, .int .i64 7], .vec false 1 [.int .i64 2, .int .i64 5]]],
 .agg [.str [88, 88], .bool false, .vec false 1 [.int .i64 0, .int .i64 1, .int .i64 2], .vec false 1 [], .vec false 1 [], .vec false 1 [.vec false 1 [.int .i64 7, .int .i64 1, .int .i64 7], .vec false 1 [.int .i64 1, .int .i64 3, .int .i64 2, .int .i64 4, .int .i64 7], .vec false 1 [.int .i64 2, .int .i64 5]]],
 .agg [.str [88, 88], .bool false, .vec false 1 [.int .i64 3], .vec false 1 [], .vec false 1 [], .vec false 1 [.vec false 1 [.int .i64 1], .vec false 1 [.int .i64 1, .int .i64 3, .int .i64 2, .int .i64 4], .vec false 1 [.int .i64 2, .int .i64 5, .int .i64 7]]],
 .agg [.str [88, 88], .bool false, .vec false 1 [.int .i64 0, .int .i64 3], .vec false 1 [], .vec false 1 [], .vec false 1 [.vec false 1 [.int .i64 7, .int .i64 1], .vec false 1 [.int .i64 1, .int .i64 3, .int .i64 2, .int .i64 4], .vec false 1 [.int .i64 2, .int .i64 5, .int .i64 7]]],
 .agg [.str [88, 88], .bool false, .vec false 1 [.int .i64 1, .int .i64 3], .vec false 1 [], .vec false 1 [], .vec false 1 [.vec false 1 [.int .i64 1, .int .i64 7], .vec false 1 [.int .i64 1, .int .i64 3, .int .i64 2, .int .i64 4], .vec false 1 [.int .i64 2, .int .i64 5, .int .i64 7]]],
 .agg [.str [88, 88], .bool false, .vec false 1 [.int .i64 0, .int .i64 1, .int .i64 3], .vec false 1 [], .vec false 1 [], .vec false 1 [.vec false 1 [.int .i64 7, .int .i64 1, .int .i64 7], .vec false 1 [.int .i64 1, .int .i64 3, .int .i64 2, .int .i64 4], .vec false 1 [.int .i64 2, .int .i64 5, .int .i64 7]]],
 .agg [.str [88, 88], .bool false, .vec false 1 [.int .i64 2, .int .i64 3], .vec false 1 [], .vec false 1 [], .vec false 1 [.vec false 1 [.int .i64 1], .vec false 1 [.int .i64 1, .int .i64 3, .int .i64 2, .int .i64 4, .int .i64 7], .vec false 1 [.int .i64 2, .int .i64 5, .int .i64 7]]],
 .agg [.str [88, 88], .bool false, .vec false 1 [.int .i64 0, .int .i64 2, .int .i64 3], .vec false 1 [], .vec false 1 [], .vec false 1 [.vec false 1 [.int .i64 7, .int .i64 1], .vec false 1 [.int .i64 1, .int .i64 3, .int .i64 2, .int .i64 4, .int .i64 7], .vec false 1 [.int .i64 2, .int .i64 5, .int .i64 7]]],
 .agg [.str [88, 88], .bool false, .vec false 1 [.int .i64 1, .int .i64 2, .int .i64 3], .vec false 1 [], .vec false 1 [], .vec false 1 [.vec false 1 [.int .i64 1, .int .i64 7], .vec false 1 [.int .i64 1, .int .i64 3, .int .i64 2, .int .i64 4, .int .i64 7], .vec false 1 [.int .i64 2, .int .i64 5, .int .i64 7]]],
 .agg [.str [88, 88], .bool false, .vec false 1 [.int .i64 0, .int .i64 1, .int .i64 2, .int .i64 3], .vec false 1 [], .vec false 1 [], .vec false 1 [.vec false 1 [.int .i64 7, .int .i64 1, .int .i64 7], .vec false 1 [.int .i64 1, .int .i64 3, .int .i64 2, .int .i64 4, .int .i64 7], .vec false 1 [.int .i64 2, .int .i64 5, .int .i64 7]]],
 .agg [.str [88, 75], .bool false, .vec false 1 [], .vec false 1 [], .vec false 1 [.int .i64 2], .vec false 1 [.vec false 1 [.int .i64 1, .int .i64 4], .vec false 1 [.int .i64 1, .int .i64 3], .vec false 1 [.int .i64 2, .int .i64 5]]],
 .agg [.str [88, 75], .bool false, .vec false 1 [.int .i64 0], .vec false 1 [], .vec false 1 [.int .i64 2], .vec false 1 [.vec false 1 [.int .i64 7, .int .i64 1, .int .i64 4], .vec false 1 [.int .i64 1, .int .i64 3], .vec false 1 [.int .i64 2, .int .i64 5]]],
 .agg [.str [88, 75], .bool false, .vec false 1 [.int .i64 1], .vec false 1 [], .vec false 1 [.int .i64 2], .vec false 1 [.vec false 1 [.int .i64 1, .int .i64 4, .int .i64 7], .vec false 1 [.int .i64 1, .int .i64 3], .vec false 1 [.int .i64 2, .int .i64 5]]],
 .agg [.str [88, 75], .bool false, .vec false 1 [.int .i64 0, .int .i64 1], .vec false 1 [], .vec false 1 [.int .i64 2], .vec false 1 [.vec false 1 [.int .i64 7, .int .i64 1, .int .i64 4, .int .i64 7], .vec false 1 [.int .i64 1, .int .i64 3], .vec false 1 [.int .i64 2, .int .i64 5]]],
 .agg [.str [88, 75], .bool false, .vec false 1 [.int .i64 2], .vec false 1 [], .vec false 1 [.int .i64 2], .vec false 1 [.vec false 1 [.int .i64 1, .int .i64 4], .vec false 1 [.int .i64 1, .int .i64 3, .int .i64 7], .vec false 1 [.int .i64 2, .int .i64 5]]],
 .agg [.str [88, 75], .bool false, .vec false 1 [.int .i64 0, .int .i64 2], .vec false 1 [], .vec false 1 [.int .i64 2], .vec false 1 [.vec false 1 [.int .i64 7, .int .i64 1, .int .i64 4], .vec false 1 [.int .i64 1, .int .i64 3, .int .i64 7], .vec false 1 [.int .i64 2, .int .i64 5]]],
 .agg [.str [88, 75], .bool false, .vec false 1 [.int .i64 1, .int .i64 2], .vec false 1 [], .vec false 1 [.int .i64 2], .vec false 1 [.vec false 1 [.int .i64 1, .int .i64 4, .int .i64 7], .vec false 1 [.int .i64 1, .int .i64 3, .int .i64 7], .vec false 1 [.int .i64 2, .int .i64 5]]],
 .agg [.str [88, 75], .bool false, .vec false 1 [.int .i64 0, .int .i64 1, .int .i64 2], .vec false 1 [], .vec false 1 [.int .i64 2], .vec false 1 [.vec false 1 [.int .i64 7, .int .i64 1, .int .i64 4, .int .i64 7], .vec false 1 [.int .i64 1, .int .i64 3, .int .i64 7], .vec false 1 [.int .i64 2, .int .i64 5]]],
 .agg [.str [88, 75], .bool false, .vec false 1 [.int .i64 3], .vec false 1 [], .vec false 1 [.int .i64 2], .vec false 1 [.vec false 1 [.int .i64 1, .int .i64 4], .vec false 1 [.int .i64 1, .int .i64 3], .vec false 1 [.int .i64 2, .int .i64 5, .int .i64 7]]],
 .agg [.str [88, 75], .bool false, .vec false 1 [.int .i64 0, .int .i64 3], .vec false 1 [], .vec false 1 [.int .i64 2], .vec false 1 [.vec false 1 [.int .i64 7, .int .i64 1, .int .i64 4], .vec false 1 [.int .i64 1, .int .i64 3], .vec false 1 [.int .i64 2, .int .i64 5, .int .i64 7]]],
 .agg [.str [88, 75], .bool false, .vec false 1 [.int .i64 1, .int .i64 3], .vec false 1 [], .vec false 1 [.int .i64 2], .vec false 1 [.vec false 1 [.int .i64 1, .int .i64 4, .int .i64 7], .vec false 1 [.int .i64 1, .int .i64 3], .vec false 1 [.int .i64 2, .int .i64 5, .int .i64 7]]],
 .agg [.str [88, 75], .bool false, .vec false 1 [.int .i64 0, .int .i64 1, .int .i64 3], .vec false 1 [], .vec false 1 [.int .i64 2], .vec false 1 [.vec false 1 [.int .i64 7, .int .i64 1, .int .i64 4, .int .i64 7], .vec false 1 [.int .i64 1, .int .i64 3], .vec false 1 [.int .i64 2, .int .i64 5, .int .i64 7]]],
 .agg [.str [88, 75], .bool false, .vec false 1 [.int .i64 2, .int .i64 3], .vec false 1 [], .vec false 1 [.int .i64 2], .vec false 1 [.vec false 1 [.int .i64 1, .int .i64 4], .vec false 1 [.int .i64 1, .int .i64 3, .int .i64 7], .vec false 1 [.int .i64 2, .int .i64 5, .int .i64 7]]],
 .agg [.str [88, 75], .bool false, .vec false 1 [.int .i64 0, .int .i64 2, .int .i64 3], .vec false 1 [], .vec false 1 [.int .i64 2], .vec false 1 [.vec false 1 [.int .i64 7, .int .i64 1, .int .i64 4], .vec false 1 [.int .i64 1, .int .i64 3, .int .i64 7], .vec false 1 [.int .i64 2, .int .i64 5, .int .i64 7]]],
 .agg [.str [88, 75], .bool false, .vec false 1 [.int .i64 1, .int .i64 2, .int .i64 3], .vec false 1 [], .vec false 1 [.int .i64 2], .vec false 1 [.vec false 1 [.int .i64 1, .int .i64 4, .int .i64 7], .vec false 1 [.int .i64 1, .int .i64 3, .int .i64 7], .vec false 1 [.int .i64 2, .int .i64 5, .int .i64 7]]],
 .agg [.str [88, 75], .bool false, .vec false 1 [.int .i64 0, .int .i64 1, .int .i64 2, .int .i64 3], .vec false 1 [], .vec false 1 [.int .i64 2], .vec false 1 [.vec false 1 [.int .i64 7, .int .i64 1, .int .i64 4, .int .i64 7], .vec false 1 [.int .i64 1, .int .i64 3, .int .i64 7], .vec false 1 [.int .i64 2, .int .i64 5, .int .i64 7]]],
 .agg [.str [88, 88, 102, 97, 108, 108, 98, 97, 99, 107], .bool true, .vec false 1 [], .vec false 1 [.int .i64 1], .vec false 1 [], .vec false 1 [.vec false 1 [.int .i64 1, .int .i64 3, .int .i64 2, .int .i64 4], .vec false 1 [.int .i64 2, .int .i64 5]]]]
theorem tabW_eq : allW = tabW := by kernel_rfl
theorem tabA_eq : tabP.map patL = tabA := by kernel_rfl
def idxF : List (List UInt8 × List Int) → List UInt8 → List Int → Nat
 | [], _, _ => 0
 | a :: r, s, l => bif a.1 == s && a.2 == l then 0 else idxF r s l + 1
def outAt : List AV → Nat → Out
 | [], _ => .ret (.tup []) []
 | a :: _, 0 => .ret (.tup [a, .int .i64 0]) []
 | _ :: r, n + 1 => outAt r n
def withO (s : List UInt8) (l : List Int) : Out := outAt tabA (idxF tabW s l)
theorem withO_all : (tabW.map fun x => withO x.1 x.2) = tabW.map fun x => .ret (.tup [patL (withP x.1 x.2), .int .i64 0]) [] := by kernel_rfl
theorem withO_eq {s : List UInt8} {l : List Int} (h : isW s l = true) : withO s l = .ret (.tup [patL (withP s l), .int .i64 0]) [] := by
 have h1 : (s, l) ∈ tabW := by rw [← tabW_eq]; exact of_decide_eq_true h
 exact List.map_inj_left.1 withO_all (s, l) h1
def isWT (s : List UInt8) (l : List Int) : Bool := tabW.any fun a => a.1 == s && a.2 == l
theorem isWT_iff {s : List UInt8} {l : List Int} : isWT s l = true ↔ isW s l = true := by
 unfold isWT isW
 rw [List.any_eq_true, decide_eq_true_eq, tabW_eq]
 constructor
 ·rintro ⟨⟨a, b⟩, h, h2⟩
  simp only [Bool.and_eq_true, beq_iff_eq] at h2
  obtain ⟨rfl, rfl⟩ := h2
  exact h
 ·intro h
  exact ⟨(s, l), h, by simp⟩
theorem okTs_pure {x : AV} (h : okTs x = true) : pureA x = true := by
 cases x with
 | vec b k l =>
  simp only [okTs, Bool.and_eq_true, List.all_eq_true] at h
  have key : ∀ m : List AV, (∀ a ∈ m, okIs a = true) → pureL m = true := by
   intro m
   induction m with
   | nil => intro _; rfl
   | cons a m ih => intro h; rw [pureL, ih (fun b hb => h b (by simp [hb])), okIs_pure (h a (by simp))]; rfl
  exact key l h.2
 | _ => first | rfl | simp [okTs] at h
theorem pureL_app : ∀ (l m : List AV), pureL (l ++ m) = (pureL l && pureL m)
 | [], m => by simp [pureL]
 | a :: l, m => by rw [List.cons_append, pureL, pureL, pureL_app l m, Bool.and_assoc]
mutual
theorem pureA_fl : ∀ a : AV, pureL (flA a) = pureA a
 | .agg l => pureL_fl l
 | .any | .raw _ | .int _ _ | .u8 _ | .u32 _ | .u64 _ | .bool _ | .str _ | .b8 _ _ | .w32 _ _ | .w64 _ _ | .n64 _ _ | .ptr _ _ | .pix _ _ _ _ | .sl _ _ _ _ | .vec8 _ _ | .vec _ _ _ | .vecr _ _ _ _ | .slv _ _ _ _ | .vp _ _ | .vpx _ _ _ _ | .fn _ _ _ | .tup _ => Bool.and_true _
theorem pureL_fl : ∀ l : List AV, pureL (flL l) = pureL l
 | [] => rfl
 | a :: l => by
  show pureL (flA a ++ flL l) = (pureA a && pureL l)
  rw [pureL_app, pureA_fl a, pureL_fl l]
end
theorem okPat_pure : ∀ {l : List AV}, okPat (flL l) = true → pureA (.agg l) = true := by
 have key : ∀ m : List AV, okPat m = true → pureL m = true
  | [.str b, .bool lt, x, y, z, t], h => by
   simp only [okPat, Bool.and_eq_true] at h
   simp [pureL, pureA, okIs_pure h.1, okIs_pure h.2.1, okIs_pure h.2.2.1, okTs_pure h.2.2.2]
 intro l h
 show pureL l = true
 rw [← pureL_fl]
 exact key _ h
def noiseN : List UInt8 := [78, 111, 105, 115, 101, 95]
def tailN : List UInt8 := [95, 50, 53, 53, 49, 57, 95, 67, 104, 97, 67, 104, 97, 80, 111, 108, 121, 95, 66, 76, 65, 75, 69, 50, 115]
def pskN (n : Int) : List UInt8 := [112, 115, 107, UInt8.ofNat (48 + n).toNat]
def joinN : List (List UInt8) → List UInt8
 | [] => []
 | [a] => a
 | a :: l => a ++ 43 :: joinN l
def showP (p : Pat) : List UInt8 := noiseN ++ p.base ++ joinN (p.psks.map pskN) ++ tailN
def tabS : List (AV × List UInt8) := tabA.zip (tabP.map showP)
def qShow (s : List UInt8) : AV → Bool
 | .tup [.str t, .int .i64 e] => decide (t = s) && e == 0
 | _ => false
theorem qShow_le {s : List UInt8} {x : AV} (h : qShow s x = true) : leV x (.tup [.str s, .int .i64 0]) := by
 unfold qShow at h
 split at h
 ·simp only [Bool.and_eq_true, decide_eq_true_eq, beq_iff_eq] at h
  obtain ⟨rfl, rfl⟩ := h
  exact leV.refl _
 ·cases h
theorem tabS_mem {p : Pat} (h : p ∈ tabP) : (patL p, showP p) ∈ tabS := by
 unfold tabS
 rw [← tabA_eq, List.zip_map']
 exact List.mem_map_of_mem (f := fun q => (patL q, showP q)) h
def tabN : List (List UInt8 × Pat) := tabP.map fun p => (showP p, p)
theorem tabN_mem {p : Pat} (h : p ∈ tabP) : (showP p, p) ∈ tabN := List.mem_map_of_mem (f := fun q => (showP q, q)) h
def findN (s : List UInt8) : List (List UInt8 × AV) → Option Out
 | [] => none
 | a :: r => bif a.1 == s then some (.ret (.tup [a.2, .int .i64 0]) []) else findN s r
def tabNA : List (List UInt8 × AV) := (tabP.map showP).zip tabA
theorem tabNA_eq : tabNA = tabP.map fun p => (showP p, patL p) := by
 unfold tabNA
 rw [← tabA_eq, List.zip_map']
theorem findN_some {s : List UInt8} : ∀ {l : List Pat} {o : Out}, findN s (l.map fun p => (showP p, patL p)) = some o → ∃ p ∈ l, showP p = s ∧ o = .ret (.tup [patL p, .int .i64 0]) []
 | p :: l, o, h => by
  rw [List.map_cons, findN] at h
  cases hb : showP p == s with
  | true =>
   rw [hb] at h
   simp only [cond_true, Option.some.injEq] at h
   exact ⟨p, by simp, by simpa using hb, h.symm⟩
  | false =>
   rw [hb] at h
   obtain ⟨q, h1, h2⟩ := findN_some (l := l) h
   exact ⟨q, by simp [h1], h2⟩
end Go.Pat
namespace Go.Shk
open Go Go.V Go.Pat
def RLe (l l' : List AV) : Prop := ∀ ρ I w xs, RL ρ I w l xs → RL ρ I w l' xs
def Re (a b : AV) : Prop := ∀ ρ I w xs, R ρ I w a xs → R ρ I w b xs
theorem RLe.refl (l : List AV) : RLe l l := fun _ _ _ _ h => h
theorem RLe.cons {a b : AV} {l l' : List AV} (h : Re a b) (h' : RLe l l') : RLe (a :: l) (b :: l') := fun _ _ _ _ r => by
 obtain ⟨ys, zs, rfl, q, r2⟩ := RL_cons.1 r
 exact RL_cons.2 ⟨ys, zs, rfl, h _ _ _ _ q, h' _ _ _ _ r2⟩
theorem RLe.same {a : AV} {l l' : List AV} (h' : RLe l l') : RLe (a :: l) (a :: l') := RLe.cons (fun _ _ _ _ h => h) h'
theorem Re.of {a b : AV} (ha : isAg a = false) (ha2 : a ≠ .any) (ha3 : szA a = 1) (hb : isAg b = false) (hb2 : b ≠ .any) (h : leV a b) : Re a b := fun ρ I w ys q => by
 have hl := R_len a ys q
 rw [ha3] at hl
 obtain ⟨v, rfl⟩ : ∃ v, ys = [v] := by
  cases ys with
  | nil => simp at hl
  | cons v t => cases t with
   | nil => exact ⟨v, rfl⟩
   | cons _ _ => simp at hl
 have h1 : rel ρ I w a v := (valOf_ag ha2).2 (by rw [ha]; exact q)
 have h2 := (valOf_ag hb2).1 (h ρ I w v h1)
 rw [hb] at h2
 exact h2
theorem RLe.flat {l l' : List AV} (h : RLe (flL l) (flL l')) : leV (.agg l) (.agg l') := fun ρ I w v r => by
 obtain ⟨cs, h1, h2⟩ := rel_agg.1 r
 exact rel_agg.2 ⟨cs, h1, (RL_fl l' _).2 (h _ _ _ _ ((RL_fl l _).1 h2))⟩
def isK : AV → Bool
 | .b8 32 _ => true
 | _ => false
def rdK : AV → List UInt8
 | .b8 32 l => l
 | _ => []
theorem isK_eq {a : AV} (h : isK a = true) : a = .b8 32 (rdK a) := by
 unfold isK at h
 split at h
 ·rfl
 ·cases h
def okKs : AV → Bool
 | .vec _ k l => k == 32 && l.all isK
 | .vec8 _ l => l.isEmpty
 | _ => false
def rdKs : AV → List (List UInt8)
 | .vec _ _ l => l.map rdK
 | _ => []
def vK (l : List (List UInt8)) : AV := .vec false 32 (l.map fun x => .b8 32 x)
theorem okKs_le {x : AV} (h : okKs x = true) : Re x (vK (rdKs x)) := by
 cases x with
 | vec b k l =>
  simp only [okKs, Bool.and_eq_true, beq_iff_eq, List.all_eq_true] at h
  obtain ⟨rfl, h⟩ := h
  have e : (rdKs (.vec b 32 l)).map (fun x => AV.b8 32 x) = l := by
   rw [rdKs, List.map_map]
   conv => rhs; rw [← List.map_id l]
   exact List.map_congr_left fun a ha => (isK_eq (h a ha)).symm
  unfold vK
  rw [e]
  rintro ρ I w xs ⟨v, rfl, h1, vs, h2, a, cap, h3, h4, _, h5⟩
  exact ⟨v, rfl, h1, vs, h2, a, cap, h3, h4, by simp, h5⟩
 | vec8 b l =>
  simp only [okKs, List.isEmpty_iff] at h
  subst h
  rintro ρ I w xs ⟨v, rfl, a, cap, h3, h4, _, h5⟩
  exact ⟨v, rfl, fun _ h => by simp [rdKs] at h, [], rfl, a, cap, h3, h4, by simp, .inl rfl⟩
 | _ => simp [okKs] at h
theorem pure_vK (l : List (List UInt8)) : pureA (vK l) = true := by
 show pureL _ = true
 induction l with
 | nil => rfl
 | cons a l ih => rw [List.map_cons, pureL, ih]; rfl
theorem okKs_pure {x : AV} (h : okKs x = true) : pureA x = true := by
 cases x with
 | vec b k l =>
  simp only [okKs, Bool.and_eq_true, List.all_eq_true] at h
  have key : ∀ m : List AV, (∀ a ∈ m, isK a = true) → pureL m = true := by
   intro m
   induction m with
   | nil => intro _; rfl
   | cons a m ih => intro h; rw [pureL, ih (fun b hb => h b (by simp [hb])), isK_eq (h a (by simp))]; rfl
  exact key l h.2
 | _ => first | rfl | simp [okKs] at h
structure Sh where
 first : Bool
 turn : Int
 dead : Bool
 sh : Bool
 ck : List UInt8
 n : UInt64
 ch : List UInt8
 hs : List UInt8
 own : List UInt8
 fr : List UInt8
 has : Bool
 their : List UInt8
 knows : Bool
 newest : List UInt8
 saw : Bool
 psks : List (List UInt8)
 used : Int
def shA (p : Pat) (s : Sh) : AV :=
 .agg [patL p, .bool s.first, .int .i64 s.turn, .bool s.dead, .agg [.agg [.bool s.sh, .b8 32 s.ck, .u64 s.n], .b8 32 s.ch, .b8 32 s.hs], .b8 32 s.own, .b8 32 s.fr, .bool s.has, .b8 32 s.their, .bool s.knows, .b8 32 s.newest, .bool s.saw, vK s.psks, .int .i64 s.used]
theorem pure_shA (p : Pat) (s : Sh) : pureA (shA p s) = true := by
 show pureL _ = true
 simp only [pureL, pureA, pure_patL, pure_vK, Bool.and_self]
def rdSh : List AV → Option (Pat × Sh)
 | [b, l, x, y, z, t, .bool first, .int .i64 turn, .bool dead, .bool sh, .b8 32 ck, .u64 n, .b8 32 ch, .b8 32 hs, .b8 32 own, .b8 32 fr, .bool has, .b8 32 their, .bool knows, .b8 32 newest, .bool saw, q, .int .i64 used] =>
  bif okPat [b, l, x, y, z, t] && okKs q then some (rdPat [b, l, x, y, z, t], ⟨first, turn, dead, sh, ck, n, ch, hs, own, fr, has, their, knows, newest, saw, rdKs q, used⟩) else none
 | _ => none
theorem Re.str (s : List UInt8) : Re (.str s) (.str s) := fun _ _ _ _ h => h
theorem okPat_cells : ∀ {l r r' : List AV}, okPat l = true → RLe r r' → RLe (l ++ r) (flL [patL (rdPat l)] ++ r')
 | [.str b, .bool lt, x, y, z, t], r, r', h, hr => by
  simp only [okPat, Bool.and_eq_true] at h
  obtain ⟨h1, h2, h3, h4⟩ := h
  obtain ⟨a1, a2, a3, _⟩ := okIs_ag h1
  obtain ⟨b1, b2, b3, _⟩ := okIs_ag h2
  obtain ⟨c1, c2, c3, _⟩ := okIs_ag h3
  obtain ⟨d1, d2, d3⟩ := okTs_ag h4
  exact RLe.same (RLe.same (RLe.cons (Re.of a1 a2 a3 rfl (by simp [vL]) ((okIs_le h1).trans (leV_vL _)))
   (RLe.cons (Re.of b1 b2 b3 rfl (by simp [vL]) ((okIs_le h2).trans (leV_vL _)))
   (RLe.cons (Re.of c1 c2 c3 rfl (by simp [vL]) ((okIs_le h3).trans (leV_vL _)))
   (RLe.cons (Re.of d1 d2 d3 rfl (by simp [vLL]) ((okTs_le h4).trans (leV_vLL _))) hr)))))
theorem rdSh_le {l : List AV} {p : Pat} {s : Sh} (h : rdSh (flL l) = some (p, s)) : leV (.agg l) (shA p s) := by
 refine RLe.flat ?_
 generalize flL l = m at h
 unfold rdSh at h
 split at h
 ·rename_i b l x y z t first turn dead sh ck n ch hs own fr has their knows newest saw q used
  cases hb : okPat [b, l, x, y, z, t] && okKs q with
  | false => rw [hb] at h; cases h
  | true =>
   rw [hb] at h
   simp only [cond_true, Option.some.injEq, Prod.mk.injEq] at h
   obtain ⟨rfl, rfl⟩ := h
   simp only [Bool.and_eq_true] at hb
   exact okPat_cells (l := [b, l, x, y, z, t]) hb.1 (RLe.same (RLe.same (RLe.same (RLe.same (RLe.same (RLe.same (RLe.same (RLe.same (RLe.same (RLe.same (RLe.same (RLe.same (RLe.same (RLe.same (RLe.same (RLe.cons (okKs_le hb.2) (RLe.refl _)))))))))))))))))
 ·cases h
theorem rdSh_pure {l : List AV} {p : Pat} {s : Sh} (h : rdSh (flL l) = some (p, s)) : pureA (.agg l) = true := by
 show pureL l = true
 rw [← pureL_fl]
 generalize flL l = m at h
 unfold rdSh at h
 split at h
 ·rename_i b l x y z t first turn dead sh ck n ch hs own fr has their knows newest saw q used
  cases hb : okPat [b, l, x, y, z, t] && okKs q with
  | false => rw [hb] at h; cases h
  | true =>
   simp only [Bool.and_eq_true] at hb
   have h1 : pureA (.agg [b, l, x, y, z, t]) = true := by
    have key : ∀ m : List AV, okPat m = true → pureL m = true
     | [.str b, .bool lt, x, y, z, t], h => by
      simp only [okPat, Bool.and_eq_true] at h
      simp [pureL, pureA, okIs_pure h.1, okIs_pure h.2.1, okIs_pure h.2.2.1, okTs_pure h.2.2.2]
    exact key _ hb.1
   have h2 := okKs_pure hb.2
   simp only [pureA, pureL, Bool.and_true, Bool.and_eq_true] at h1
   simp only [pureL, pureA, h1, h2, Bool.and_self]
 ·cases h
end Go.Shk
namespace Go.V
open Go
section
variable {P : Program} {G : Env P} {R : ROps G} {T : Ctr G}
def leafE (e : AV) (v : AV) (H : Heap) : Prop := (deepT H v).1 = true ∧ (deepT H v).2.1 = e
def leafP (q : AV → Prop) (v : AV) (H : Heap) : Prop := (deepT H v).1 = true ∧ q (deepT H v).2.1
theorem HCall.of_walkP (L : FuncId → Nat → LPlan) (n : Nat) {f : FuncId} {args : List AV} {q : AV → Prop} {w0 : AV} (hp : pureL args = true) (h : walkH G R T.C L n f args [] (leafP q)) (hq : ∀ x, q x → leV x w0) (hw : pureA w0 = true) :
  HCall G f args (.ret w0 []) := by
 refine ⟨hp, by simp [Out.okB, refsA_pure _ hw], fun ρ I w vs c r => (ACall.of_walkH h ρ I w vs c r).mono ?_⟩
 rintro e w' ⟨x, rfl, ρ', I', v, H', gd, c', hr, h1, h2⟩
 obtain ⟨I2, f1, f2, f3, f4⟩ := deepT_sound v I' H' c' h1
 obtain ⟨c2, g2⟩ := cut_conc f2 0 (fun e he => by simp at he)
 exact ⟨x, rfl, cutR 0 ρ', I2, w0, [], g2 (gd.trans f1) (fun id h => absurd (c.dom id h) (by simp)) (Nat.le_refl _), c2, rel_pure hw (hq _ h2 _ _ _ _ (f4 _ hr)), ⟨rfl, rfl⟩⟩
theorem HCall.of_walkE (L : FuncId → Nat → LPlan) (n : Nat) {f : FuncId} {args : List AV} {w0 : AV} (hp : pureL args = true) (h : walkH G R T.C L n f args [] (leafE w0)) (hw : pureA w0 = true) :
  HCall G f args (.ret w0 []) :=
 HCall.of_walkP L n (q := fun x => x = w0) hp h (fun x hx => by rw [hx]; exact leV.refl _) hw
def tAllE {α : Type} (e : α → AV) : List α → Prop
 | [] => True
 | a :: r => (true = true ∧ e a = e a) ∧ tAllE e r
theorem tAllE_ok {α : Type} (e : α → AV) : ∀ l : List α, tAllE e l
 | [] => trivial
 | _ :: r => ⟨⟨rfl, rfl⟩, tAllE_ok e r⟩
theorem wAllE_of {α : Type} {W : α → Prop} {e : α → AV} {l : List α} (h : wAll W l = tAllE e l) : ∀ a ∈ l, W a := wAll_mem (h.symm ▸ tAllE_ok e l)
end
end Go.V