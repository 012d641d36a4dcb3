import Derived.Test.YtcnnogimaikicaaDoorZzai
import Derived.KernelRfl
import Derived.Test.YtcnnogimaikicaaDoorZzag
set_option linter.unusedSimpArgs false
set_option linter.unusedVariables false
namespace Go.Pat
open Go Go.V
set_option maxRecDepth 100000
def tabW : List (List UInt8 × List Int) := [
 ([78, 78], []),
 ([78, 78], [0]),
 ([78, 78], [1]),
 ([78, 78], [0, 1]),
 ([78, 78], [2]),
 ([78, 78], [0, 2]),
 ([78, 78], [1, 2]),
 ([78, 78], [0, 1, 2]),
 ([78, 75], []),
 ([78, 75], [0]),
 ([78, 75], [1]),
 ([78, 75], [0, 1]),
 ([78, 75], [2]),
 ([78, 75], [0, 2]),
 ([78, 75], [1, 2]),
 ([78, 75], [0, 1, 2]),
 ([73, 75], []),
 ([73, 75], [0]),
 ([73, 75], [1]),
 ([73, 75], [0, 1]),
 ([73, 75], [2]),
 ([73, 75], [0, 2]),
 ([73, 75], [1, 2]),
 ([73, 75], [0, 1, 2]),
 ([75, 75], []),
 ([75, 75], [0]),
 ([75, 75], [1]),
 ([75, 75], [0, 1]),
 ([75, 75], [2]),
 ([75, 75], [0, 2]),
 ([75, 75], [1, 2]),
 ([75, 75], [0, 1, 2]),
 ([88, 88], []),
 ([88, 88], [0]),
 ([88, 88], [1]),
 ([88, 88], [0, 1]),
 ([88, 88], [2]),
 ([88, 88], [0, 2]),
 ([88, 88], [1, 2]),
 ([88, 88], [0, 1, 2]),
 ([88, 88], [3]),
 ([88, 88], [0, 3]),
 ([88, 88], [1, 3]),
 ([88, 88], [0, 1, 3]),
 ([88, 88], [2, 3]),
 ([88, 88], [0, 2, 3]),
 ([88, 88], [1, 2, 3]),
 ([88, 88], [0, 1, 2, 3]),
 ([88, 75], []),
 ([88, 75], [0]),
 ([88, 75], [1]),
 ([88, 75], [0, 1]),
 ([88, 75], [2]),
 ([88, 75], [0, 2]),
 ([88, 75], [1, 2]),
 ([88, 75], [0, 1, 2]),
 ([88, 75], [3]),
 ([88, 75], [0, 3]),
 ([88, 75], [1, 3]),
 ([88, 75], [0, 1, 3]),
 ([88, 75], [2, 3]),
 ([88, 75], [0, 2, 3]),
 ([88, 75], [1, 2, 3]),
 ([88, 75], [0, 1, 2, 3]),
 ([88, 88, 102, 97, 108, 108, 98, 97, 99, 107], [])]
def tabP : List Pat := [
 ⟨[78, 78], false, [], [], [], [[1], [1, 3]]⟩,
 ⟨[78, 78], false, [0], [], [], [[7, 1], [1, 3]]⟩,
 ⟨[78, 78], false, [1], [], [], [[1, 7], [1, 3]]⟩,
 ⟨[78, 78], false, [0, 1], [], [], [[7, 1, 7], [1, 3]]⟩,
 ⟨[78, 78], false, [2], [], [], [[1], [1, 3, 7]]⟩,
 ⟨[78, 78], false, [0, 2], [], [], [[7, 1], [1, 3, 7]]⟩,
 ⟨[78, 78], false, [1, 2], [], [], [[1, 7], [1, 3, 7]]⟩,
 ⟨[78, 78], false, [0, 1, 2], [], [], [[7, 1, 7], [1, 3, 7]]⟩,
 ⟨[78, 75], false, [], [], [2], [[1, 4], [1, 3]]⟩,
 ⟨[78, 75], false, [0], [], [2], [[7, 1, 4], [1, 3]]⟩,
 ⟨[78, 75], false, [1], [], [2], [[1, 4, 7], [1, 3]]⟩,
 ⟨[78, 75], false, [0, 1], [], [2], [[7, 1, 4, 7], [1, 3]]⟩,
 ⟨[78, 75], false, [2], [], [2], [[1, 4], [1, 3, 7]]⟩,
 ⟨[78, 75], false, [0, 2], [], [2], [[7, 1, 4], [1, 3, 7]]⟩,
 ⟨[78, 75], false, [1, 2], [], [2], [[1, 4, 7], [1, 3, 7]]⟩,
 ⟨[78, 75], false, [0, 1, 2], [], [2], [[7, 1, 4, 7], [1, 3, 7]]⟩,
 ⟨[73, 75], false, [], [], [2], [[1, 4, 2, 6], [1, 3, 5]]⟩,
 ⟨[73, 75], false, [0], [], [2], [[7, 1, 4, 2, 6], [1, 3, 5]]⟩,
 ⟨[73, 75], false, [1], [], [2], [[1, 4, 2, 6, 7], [1, 3, 5]]⟩,
 ⟨[73, 75], false, [0, 1], [], [2], [[7, 1, 4, 2, 6, 7], [1, 3, 5]]⟩,
 ⟨[73, 75], false, [2], [], [2], [[1, 4, 2, 6], [1, 3, 5, 7]]⟩,
 ⟨[73, 75], false, [0, 2], [], [2], [[7, 1, 4, 2, 6], [1, 3, 5, 7]]⟩,
 ⟨[73, 75], false, [1, 2], [], [2], [[1, 4, 2, 6, 7], [1, 3, 5, 7]]⟩,
 ⟨[73, 75], false, [0, 1, 2], [], [2], [[7, 1, 4, 2, 6, 7], [1, 3, 5, 7]]⟩,
 ⟨[75, 75], false, [], [2], [2], [[1, 4, 6], [1, 3, 5]]⟩,
 ⟨[75, 75], false, [0], [2], [2], [[7, 1, 4, 6], [1, 3, 5]]⟩,
 ⟨[75, 75], false, [1], [2], [2], [[1, 4, 6, 7], [1, 3, 5]]⟩,
 ⟨[75, 75], false, [0, 1], [2], [2], [[7, 1, 4, 6, 7], [1, 3, 5]]⟩,
 ⟨[75, 75], false, [2], [2], [2], [[1, 4, 6], [1, 3, 5, 7]]⟩,
 ⟨[75, 75], false, [0, 2], [2], [2], [[7, 1, 4, 6], [1, 3, 5, 7]]⟩,
 ⟨[75, 75], false, [1, 2], [2], [2], [[1, 4, 6, 7], [1, 3, 5, 7]]⟩,
 ⟨[75, 75], false, [0, 1, 2], [2], [2], [[7, 1, 4, 6, 7], [1, 3, 5, 7]]⟩,
 ⟨[88, 88], false, [], [], [], [[1], [1, 3, 2, 4], [2, 5]]⟩,
 ⟨[88, 88], false, [0], [], [], [[7, 1], [1, 3, 2, 4], [2, 5]]⟩,
 ⟨[88, 88], false, [1], [], [], [[1, 7], [1, 3, 2, 4], [2, 5]]⟩,
 ⟨[88, 88], false, [0, 1], [], [], [[7, 1, 7], [1, 3, 2, 4], [2, 5]]⟩,
 ⟨[88, 88], false, [2], [], [], [[1], [1, 3, 2, 4, 7], [2, 5]]⟩,
 ⟨[88, 88], false, [0, 2], [], [], [[7, 1], [1, 3, 2, 4, 7], [2, 5]]⟩,
 ⟨[88, 88], false, [1, 2], [], [], [[1, 7], [1, 3, 2, 4, 7], [2, 5]]⟩,
 ⟨[88, 88], false, [0, 1, 2], [], [], [[7, 1, 7], [1, 3, 2, 4, 7], [2, 5]]⟩,
 ⟨[88, 88], false, [3], [], [], [[1], [1, 3, 2, 4], [2, 5, 7]]⟩,
 ⟨[88, 88], false, [0, 3], [], [], [[7, 1], [1, 3, 2, 4], [2, 5, 7]]⟩,
 ⟨[88, 88], false, [1, 3], [], [], [[1, 7], [1, 3, 2, 4], [2, 5, 7]]⟩,
 ⟨[88, 88], false, [0, 1, 3], [], [], [[7, 1, 7], [1, 3, 2, 4], [2, 5, 7]]⟩,
 ⟨[88, 88], false, [2, 3], [], [], [[1], [1, 3, 2, 4, 7], [2, 5, 7]]⟩,
 ⟨[88, 88], false, [0, 2, 3], [], [], [[7, 1], [1, 3, 2, 4, 7], [2, 5, 7]]⟩,
 ⟨[88, 88], false, [1, 2, 3], [], [], [[1, 7], [1, 3, 2, 4, 7], [2, 5, 7]]⟩,
 ⟨[88, 88], false, [0, 1, 2, 3], [], [], [[7, 1, 7], [1, 3, 2, 4, 7], [2, 5, 7]]⟩,
 ⟨[88, 75], false, [], [], [2], [[1, 4], [1, 3], [2, 5]]⟩,
 ⟨[88, 75], false, [0], [], [2], [[7, 1, 4], [1, 3], [2, 5]]⟩,
 ⟨[88, 75], false, [1], [], [2], [[1, 4, 7], [1, 3], [2, 5]]⟩,
 ⟨[88, 75], false, [0, 1], [], [2], [[7, 1, 4, 7], [1, 3], [2, 5]]⟩,
 ⟨[88, 75], false, [2], [], [2], [[1, 4], [1, 3, 7], [2, 5]]⟩,
 ⟨[88, 75], false, [0, 2], [], [2], [[7, 1, 4], [1, 3, 7], [2, 5]]⟩,
 ⟨[88, 75], false, [1, 2], [], [2], [[1, 4, 7], [1, 3, 7], [2, 5]]⟩,
 ⟨[88, 75], false, [0, 1, 2], [], [2], [[7, 1, 4, 7], [1, 3, 7], [2, 5]]⟩,
 ⟨[88, 75], false, [3], [], [2], [[1, 4], [1, 3], [2, 5, 7]]⟩,
 ⟨[88, 75], false, [0, 3], [], [2], [[7, 1, 4], [1, 3], [2, 5, 7]]⟩,
 ⟨[88, 75], false, [1, 3], [], [2], [[1, 4, 7], [1, 3], [2, 5, 7]]⟩,
 ⟨[88, 75], false, [0, 1, 3], [], [2], [[7, 1, 4, 7], [1, 3], [2, 5, 7]]⟩,
 ⟨[88, 75], false, [2, 3], [], [2], [[1, 4], [1, 3, 7], [2, 5, 7]]⟩,
 ⟨[88, 75], false, [0, 2, 3], [], [2], [[7, 1, 4], [1, 3, 7], [2, 5, 7]]⟩,
 ⟨[88, 75], false, [1, 2, 3], [], [2], [[1, 4, 7], [1, 3, 7], [2, 5, 7]]⟩,
 ⟨[88, 75], false, [0, 1, 2, 3], [], [2], [[7, 1, 4, 7], [1, 3, 7], [2, 5, 7]]⟩,
 ⟨[88, 88, 102, 97, 108, 108, 98, 97, 99, 107], true, [], [1], [], [[1, 3, 2, 4], [2, 5]]⟩]
def tabA : List AV := [
 .agg [.str [78, 78], .bool false, .vec false 1 [], .vec false 1 [], .vec false 1 [], .vec false 1 [.vec false 1 [.int .i64 1], .vec false 1 [.int .i64 1, .int .i64 3]]],
 .agg [.str [78, 78], .bool false, .vec false 1 [.int .i64 0], .vec false 1 [], .vec false 1 [], .vec false 1 [.vec false 1 [.int .i64 7, .int .i64 1], .vec false 1 [.int .i64 1, .int .i64 3]]],
 .agg [.str [78, 78], .bool false, .vec false 1 [.int .i64 1], .vec false 1 [], .vec false 1 [], .vec false 1 [.vec false 1 [.int .i64 1, .int .i64 7], .vec false 1 [.int .i64 1, .int .i64 3]]],
 .agg [.str [78, 78], .bool false, .vec false 1 [.int .i64 0, .int .i64 1], .vec false 1 [], .vec false 1 [], .vec false 1 [.vec false 1 [.int .i64 7, .int .i64 1, .int .i64 7], .vec false 1 [.int .i64 1, .int .i64 3]]],
 .agg [.str [78, 78], .bool false, .vec false 1 [.int .i64 2], .vec false 1 [], .vec false 1 [], .vec false 1 [.vec false 1 [.int .i64 1], .vec false 1 [.int .i64 1, .int .i64 3, .int .i64 7]]],
 .agg [.str [78, 78], .bool false, .vec false 1 [.int .i64 0, .int .i64 2], .vec false 1 [], .vec false 1 [], .vec false 1 [.vec false 1 [.int .i64 7, .int .i64 1], .vec false 1 [.int .i64 1, .int .i64 3, .int .i64 7]]],
 .agg [.str [78, 78], .bool false, .vec false 1 [.int .i64 1, .int .i64 2], .vec false 1 [], .vec false 1 [], .vec false 1 [.vec false 1 [.int .i64 1, .int .i64 7], .vec false 1 [.int .i64 1, .int .i64 3, .int .i64 7]]],
 .agg [.str [78, 78], .bool false, .vec false 1 [.int .i64 0, .int .i64 1, .int .i64 2], .vec false 1 [], .vec false 1 [], .vec false 1 [.vec false 1 [.int .i64 7, .int .i64 1, .int .i64 7], .vec false 1 [.int .i64 1, .int .i64 3, .int .i64 7]]],
 .agg [.str [78, 75], .bool false, .vec false 1 [], .vec false 1 [], .vec false 1 [.int .i64 2], .vec false 1 [.vec false 1 [.int .i64 1, .int .i64 4], .vec false 1 [.int .i64 1, .int .i64 3]]],
 .agg [.str [78, 75], .bool false, .vec false 1 [.int .i64 0], .vec false 1 [], .vec false 1 [.int .i64 2], .vec false 1 [.vec false 1 [.int .i64 7, .int .i64 1, .int .i64 4], .vec false 1 [.int .i64 1, .int .i64 3]]],
 .agg [.str [78, 75], .bool false, .vec false 1 [.int .i64 1], .vec false 1 [], .vec false 1 [.int .i64 2], .vec false 1 [.vec false 1 [.int .i64 1, .int .i64 4, .int .i64 7], .vec false 1 [.int .i64 1, .int .i64 3]]],
 .agg [.str [78, 75], .bool false, .vec false 1 [.int .i64 0, .int .i64 1], .vec false 1 [], .vec false 1 [.int .i64 2], .vec false 1 [.vec false 1 [.int .i64 7, .int .i64 1, .int .i64 4, .int .i64 7], .vec false 1 [.int .i64 1, .int .i64 3]]],
 .agg [.str [78, 75], .bool false, .vec false 1 [.int .i64 2], .vec false 1 [], .vec false 1 [.int .i64 2], .vec false 1 [.vec false 1 [.int .i64 1, .int .i64 4], .vec false 1 [.int .i64 1, .int .i64 3, .int .i64 7]]],
 .agg [.str [78, 75], .bool false, .vec false 1 [.int .i64 0, .int .i64 2], .vec false 1 [], .vec false 1 [.int .i64 2], .vec false 1 [.vec false 1 [.int .i64 7, .int .i64 1, .int .i64 4], .vec false 1 [.int .i64 1, .int .i64 3, .int .i64 7]]],
 .agg [.str [78, 75], .bool false, .vec false 1 [.int .i64 1, .int .i64 2], .vec false 1 [], .vec false 1 [.int .i64 2], .vec false 1 [.vec false 1 [.int .i64 1, .int .i64 4, .int .i64 7], .vec false 1 [.int .i64 1, .int .i64 3, .int .i64 7]]],
 .agg [.str [78, 75], .bool false, .vec false 1 [.int .i64 0, .int .i64 1, .int .i64 2], .vec false 1 [], .vec false 1 [.int .i64 2], .vec false 1 [.vec false 1 [.int .i64 7, .int .i64 1, .int .i64 4, .int .i64 7], .vec false 1 [.int .i64 1, .int .i64 3, .int .i64 7]]],
 .agg [.str [73, 75], .bool false, .vec false 1 [], .vec false 1 [], .vec false 1 [.int .i64 2], .vec false 1 [.vec false 1 [.int .i64 1, .int .i64 4, .int .i64 2, .int .i64 6], .vec false 1 [.int .i64 1, .int .i64 3, .int .i64 5]]],
 .agg [.str [73, 75], .bool false, .vec false 1 [.int .i64 0], .vec false 1 [], .vec false 1 [.int .i64 2], .vec false 1 [.vec false 1 [.int .i64 7, .int .i64 1, .int .i64 4, .int .i64 2, .int .i64 6], .vec false 1 [.int .i64 1, .int .i64 3, .int .i64 5]]],
 .agg [.str [73, 75], .bool false, .vec false 1 [.int .i64 1], .vec false 1 [], .vec false 1 [.int .i64 2], .vec false 1 [.vec false 1 [.int .i64 1, .int .i64 4, .int .i64 2, .int .i64 6, .int .i64 7], .vec false 1 [.int .i64 1, .int .i64 3, .int .i64 5]]],
 .agg [.str [73, 75], .bool false, .vec false 1 [.int .i64 0, .int .i64 1], .vec false 1 [], .vec false 1 [.int .i64 2], .vec false 1 [.vec false 1 [.int .i64 7, .int .i64 1, .int .i64 4, .int .i64 2, .int .i64 6, .int .i64 7], .vec false 1 [.int .i64 1, .int .i64 3, .int .i64 5]]],
 .agg [.str [73, 75], .bool false, .vec false 1 [.int .i64 2], .vec false 1 [], .vec false 1 [.int .i64 2], .vec false 1 [.vec false 1 [.int .i64 1, .int .i64 4, .int .i64 2, .int .i64 6], .vec false 1 [.int .i64 1, .int .i64 3, .int .i64 5, .int .i64 7]]],
 .agg [.str [73, 75], .bool false, .vec false 1 [.int .i64 0, .int .i64 2], .vec false 1 [], .vec false 1 [.int .i64 2], .vec false 1 [.vec false 1 [.int .i64 7, .int .i64 1, .int .i64 4, .int .i64 2, .int .i64 6], .vec false 1 [.int .i64 1, .int .i64 3, .int .i64 5, .int .i64 7]]],
 .agg [.str [73, 75], .bool false, .vec false 1 [.int .i64 1, .int .i64 2], .vec false 1 [], .vec false 1 [.int .i64 2], .vec false 1 [.vec false 1 [.int .i64 1, .int .i64 4, .int .i64 2, .int .i64 6, .int .i64 7], .vec false 1 [.int .i64 1, .int .i64 3, .int .i64 5, .int .i64 7]]],
 .agg [.str [73, 75], .bool false, .vec false 1 [.int .i64 0, .int .i64 1, .int .i64 2], .vec false 1 [], .vec false 1 [.int .i64 2], .vec false 1 [.vec false 1 [.int .i64 7, .int .i64 1, .int .i64 4, .int .i64 2, .int .i64 6, .int .i64 7], .vec false 1 [.int .i64 1, .int .i64 3, .int .i64 5, .int .i64 7]]],
 .agg [.str [75, 75], .bool false, .vec false 1 [], .vec false 1 [.int .i64 2], .vec false 1 [.int .i64 2], .vec false 1 [.vec false 1 [.int .i64 1, .int .i64 4, .int .i64 6], .vec false 1 [.int .i64 1, .int .i64 3, .int .i64 5]]],
 .agg [.str [75, 75], .bool false, .vec false 1 [.int .i64 0], .vec false 1 [.int .i64 2], .vec false 1 [.int .i64 2], .vec false 1 [.vec false 1 [.int .i64 7, .int .i64 1, .int .i64 4, .int .i64 6], .vec false 1 [.int .i64 1, .int .i64 3, .int .i64 5]]],
 .agg [.str [75, 75], .bool false, .vec false 1 [.int .i64 1], .vec false 1 [.int .i64 2], .vec false 1 [.int .i64 2], .vec false 1 [.vec false 1 [.int .i64 1, .int .i64 4, .int .i64 6, .int .i64 7], .vec false 1 [.int .i64 1, .int .i64 3, .int .i64 5]]],
 .agg [.str [75, 75], .bool false, .vec false 1 [.int .i64 0, .int .i64 1], .vec false 1 [.int .i64 2], .vec false 1 [.int .i64 2], .vec false 1 [.vec false 1 [.int .i64 7, .int .i64 1, .int .i64 4, .int .i64 6, .int .i64 7], .vec false 1 [.int .i64 1, .int .i64 3, .int .i64 5]]],
 .agg [.str [75, 75], .bool false, .vec false 1 [.int .i64 2], .vec false 1 [.int .i64 2], .vec false 1 [.int .i64 2], .vec false 1 [.vec false 1 [.int .i64 1, .int .i64 4, .int .i64 6], .vec false 1 [.int .i64 1, .int .i64 3, .int .i64 5, .int .i64 7]]],
 .agg [.str [75, 75], .bool false, .vec false 1 [.int .i64 0, .int .i64 2], .vec false 1 [.int .i64 2], .vec false 1 [.int .i64 2], .vec false 1 [.vec false 1 [.int .i64 7, .int .i64 1, .int .i64 4, .int .i64 6], .vec false 1 [.int .i64 1, .int .i64 3, .int .i64 5, .int .i64 7]]],
 .agg [.str [75, 75], .bool false, .vec false 1 [.int .i64 1, .int .i64 2], .vec false 1 [.int .i64 2], .vec false 1 [.int .i64 2], .vec false 1 [.vec false 1 [.int .i64 1, .int .i64 4, .int .i64 6, .int .i64 7], .vec false 1 [.int .i64 1, .int .i64 3, .int .i64 5, .int .i64 7]]],
 .agg [.str [75, 75], .bool false, .vec false 1 [.int .i64 0, .int .i64 1, .int .i64 2], .vec false 1 [.int .i64 2], .vec false 1 [.int .i64 2], .vec false 1 [.vec false 1 [.int .i64 7, .int .i64 1, .int .i64 4, .int .i64 6, .int .i64 7], .vec false 1 [.int .i64 1, .int .i64 3, .int .i64 5, .int .i64 7]]],
 .agg [.str [88, 88], .bool false, .vec false 1 [], .vec false 1 [], .vec false 1 [], .vec false 1 [.vec false 1 [.int .i64 1], .vec false 1 [.int .i64 1, .int .i64 3, .int .i64 2, .int .i64 4], .vec false 1 [.int .i64 2, .int .i64 5]]],
 .agg [.str [88, 88], .bool false, .vec false 1 [.int .i64 0], .vec false 1 [], .vec false 1 [], .vec false 1 [.vec false 1 [.int .i64 7, .int .i64 1], .vec false 1 [.int .i64 1, .int .i64 3, .int .i64 2, .int .i64 4], .vec false 1 [.int .i64 2, .int .i64 5]]],
 .agg [.str [88, 88], .bool false, .vec false 1 [.int .i64 1], .vec false 1 [], .vec false 1 [], .vec false 1 [.vec false 1 [.int .i64 1, .int .i64 7], .vec false 1 [.int .i64 1, .int .i64 3, .int .i64 2, .int .i64 4], .vec false 1 [.int .i64 2, .int .i64 5]]],
 .agg [.str [88, 88], .bool false, .vec false 1 [.int .i64 0, .int .i64 1], .vec false 1 [], .vec false 1 [], .vec false 1 [.vec false 1 [.int .i64 7, .int .i64 1, .int .i64 7], .vec false 1 [.int .i64 1, .int .i64 3, .int .i64 2, .int .i64 4], .vec false 1 [.int .i64 2, .int .i64 5]]],
 .agg [.str [88, 88], .bool false, .vec false 1 [.int .i64 2], .vec false 1 [], .vec false 1 [], .vec false 1 [.vec false 1 [.int .i64 1], .vec false 1 [.int .i64 1, .int .i64 3, .int .i64 2, .int .i64 4, .int .i64 7], .vec false 1 [.int .i64 2, .int .i64 5]]],
 .agg [.str [88, 88], .bool false, .vec false 1 [.int .i64 0, .int .i64 2], .vec false 1 [], .vec false 1 [], .vec false 1 [.vec false 1 [.int .i64 7, .int .i64 1], .vec false 1 [.int .i64 1, .int .i64 3, .int .i64 2, .int .i64 4, .int .i64 7], .vec false 1 [.int .i64 2, .int .i64 5]]],
 .agg [.str [88, 88], .bool false, .vec false 1 [.int .i64 1, .int .i64 2], .vec false 1 [], .vec false 1 [], .vec false 1 [.vec false 1 [.int .i64 1, .int .i64 7], .vec false 1 [.int .i64 1, .int .i64 3, .int .i64 2, .int .i64 4, .int .i64 7], .vec false 1 [.int .i64 2, .int .i64 5]]],
 .agg [.str [88, 88], .bool false, .vec false 1 [.int .i64 0, .int .i64 1, .int .i64 2], .vec false 1 [], .vec false 1 [], .vec false 1 [.vec false 1 [.int .i64 7, .int .i64 1, .int .i64 7], .vec false 1 [.int .i64 1, .int .i64 3, .int .i64 2, .int .i64 4, .int .i64 7], .vec false 1 [.int .i64 2, .int .i64 5]]],
 .agg [.str [88, 88], .bool false, .vec false 1 [.int .i64 3], .vec false 1 [], .vec false 1 [], .vec false 1 [.vec false 1 [.int .i64 1], .vec false 1 [.int .i64 1, .int .i64 3, .int .i64 2, .int .i64 4], .vec false 1 [.int .i64 2, .int .i64 5, .int .i64 7]]],
 .agg [.str [88, 88], .bool false, .vec false 1 [.int .i64 0, .int .i64 3], .vec false 1 [], .vec false 1 [], .vec false 1 [.vec false 1 [.int .i64 7, .int .i64 1], .vec false 1 [.int .i64 1, .int .i64 3, .int .i64 2, .int .i64 4], .vec false 1 [.int .i64 2, .int .i64 5, .int .i64 7]]],
 .agg [.str [88, 88], .bool false, .vec false 1 [.int .i64 1, .int .i64 3], .vec false 1 [], .vec false 1 [], .vec false 1 [.vec false 1 [.int .i64 1, .int .i64 7], .vec false 1 [.int .i64 1, .int .i64 3, .int .i64 2, .int .i64 4], .vec false 1 [.int .i64 2, .int .i64 5, .int .i64 7]]],
 .agg [.str [88, 88], .bool false, .vec false 1 [.int .i64 0, .int .i64 1, .int .i64 3], .vec false 1 [], .vec false 1 [], .vec false 1 [.vec false 1 [.int .i64 7, .int .i64 1, .int .i64 7], .vec false 1 [.int .i64 1, .int .i64 3, .int .i64 2, .int .i64 4], .vec false 1 [.int .i64 2, .int .i64 5, .int .i64 7]]],
 .agg [.str [88, 88], .bool false, .vec false 1 [.int .i64 2, .int .i64 3], .vec false 1 [], .vec false 1 [], .vec false 1 [.vec false 1 [.int .i64 1], .vec false 1 [.int .i64 1, .int .i64 3, .int .i64 2, .int .i64 4, .int .i64 7], .vec false 1 [.int .i64 2, .int .i64 5, .int .i64 7]]],
 .agg [.str [88, 88], .bool false, .vec false 1 [.int .i64 0, .int .i64 2, .int .i64 3], .vec false 1 [], .vec false 1 [], .vec false 1 [.vec false 1 [.int .i64 7, .int .i64 1], .vec false 1 [.int .i64 1, .int .i64 3, .int .i64 2, .int .i64 4, .int .i64 7], .vec false 1 [.int .i64 2, .int .i64 5, .int .i64 7]]],
 .agg [.str [88, 88], .bool false, .vec false 1 [.int .i64 1, .int .i64 2, .int .i64 3], .vec false 1 [], .vec false 1 [], .vec false 1 [.vec false 1 [.int .i64 1, .int .i64 7], .vec false 1 [.int .i64 1, .int .i64 3, .int .i64 2, .int .i64 4, .int .i64 7], .vec false 1 [.int .i64 2, .int .i64 5, .int .i64 7]]],
 .agg [.str [88, 88], .bool false, .vec false 1 [.int .i64 0, .int .i64 1, .int .i64 2, .int .i64 3], .vec false 1 [], .vec false 1 [], .vec false 1 [.vec false 1 [.int .i64 7, .int .i64 1, .int .i64 7], .vec false 1 [.int .i64 1, .int .i64 3, .int .i64 2, .int .i64 4, .int .i64 7], .vec false 1 [.int .i64 2, .int .i64 5, .int .i64 7]]],
 .agg [.str [88, 75], .bool false, .vec false 1 [], .vec false 1 [], .vec false 1 [.int .i64 2], .vec false 1 [.vec false 1 [.int .i64 1, .int .i64 4], .vec false 1 [.int .i64 1, .int .i64 3], .vec false 1 [.int .i64 2, .int .i64 5]]],
 .agg [.str [88, 75], .bool false, .vec false 1 [.int .i64 0], .vec false 1 [], .vec false 1 [.int .i64 2], .vec false 1 [.vec false 1 [.int .i64 7, .int .i64 1, .int .i64 4], .vec false 1 [.int .i64 1, .int .i64 3], .vec false 1 [.int .i64 2, .int .i64 5]]],
 .agg [.str [88, 75], .bool false, .vec false 1 [.int .i64 1], .vec false 1 [], .vec false 1 [.int .i64 2], .vec false 1 [.vec false 1 [.int .i64 1, .int .i64 4, .int .i64 7], .vec false 1 [.int .i64 1, .int .i64 3], .vec false 1 [.int .i64 2, .int .i64 5]]],
 .agg [.str [88, 75], .bool false, .vec false 1 [.int .i64 0, .int .i64 1], .vec false 1 [], .vec false 1 [.int .i64 2], .vec false 1 [.vec false 1 [.int .i64 7, .int .i64 1, .int .i64 4, .int .i64 7], .vec false 1 [.int .i64 1, .int .i64 3], .vec false 1 [.int .i64 2, .int .i64 5]]],
 .agg [.str [88, 75], .bool false, .vec false 1 [.int .i64 2], .vec false 1 [], .vec false 1 [.int .i64 2], .vec false 1 [.vec false 1 [.int .i64 1, .int .i64 4], .vec false 1 [.int .i64 1, .int .i64 3, .int .i64 7], .vec false 1 [.int .i64 2, .int .i64 5]]],
 .agg [.str [88, 75], .bool false, .vec false 1 [.int .i64 0, .int .i64 2], .vec false 1 [], .vec false 1 [.int .i64 2], .vec false 1 [.vec false 1 [.int .i64 7, .int .i64 1, .int .i64 4], .vec false 1 [.int .i64 1, .int .i64 3, .int .i64 7], .vec false 1 [.int .i64 2, .int .i64 5]]],
 .agg [.str [88, 75], .bool false, .vec false 1 [.int .i64 1, .int .i64 2], .vec false 1 [], .vec false 1 [.int .i64 2], .vec false 1 [.vec false 1 [.int .i64 1, .int .i64 4, .int .i64 7], .vec false 1 [.int .i64 1, .int .i64 3, .int .i64 7], .vec false 1 [.int .i64 2, .int .i64 5]]],
 .agg [.str [88, 75], .bool false, .vec false 1 [.int .i64 0, .int .i64 1, .int .i64 2], .vec false 1 [], .vec false 1 [.int .i64 2], .vec false 1 [.vec false 1 [.int .i64 7, .int .i64 1, .int .i64 4, .int .i64 7], .vec false 1 [.int .i64 1, .int .i64 3, .int .i64 7], .vec false 1 [.int .i64 2, .int .i64 5]]],
 .agg [.str [88, 75], .bool false, .vec false 1 [.int .i64 3], .vec false 1 [], .vec false 1 [.int .i64 2], .vec false 1 [.vec false 1 [.int .i64 1, .int .i64 4], .vec false 1 [.int .i64 1, .int .i64 3], .vec false 1 [.int .i64 2, .int .i64 5, .int .i64 7]]],
 .agg [.str [88, 75], .bool false, .vec false 1 [.int .i64 0, .int .i64 3], .vec false 1 [], .vec false 1 [.int .i64 2], .vec false 1 [.vec false 1 [.int .i64 7, .int .i64 1, .int .i64 4], .vec false 1 [.int .i64 1, .int .i64 3], .vec false 1 [.int .i64 2, .int .i64 5, .int .i64 7]]],
 .agg [.str [88, 75], .bool false, .vec false 1 [.int .i64 1, .int .i64 3], .vec false 1 [], .vec false 1 [.int .i64 2], .vec false 1 [.vec false 1 [.int .i64 1, .int .i64 4, .int .i64 7], .vec false 1 [.int .i64 1, .int .i64 3], .vec false 1 [.int .i64 2, .int .i64 5, .int .i64 7]]],
 .agg [.str [88, 75], .bool false, .vec false 1 [.int .i64 0, .int .i64 1, .int .i64 3], .vec false 1 [], .vec false 1 [.int .i64 2], .vec false 1 [.vec false 1 [.int .i64 7, .int .i64 1, .int .i64 4, .int .i64 7], .vec false 1 [.int .i64 1, .int .i64 3], .vec false 1 [.int .i64 2, .int .i64 5, .int .i64 7]]],
 .agg [.str [88, 75], .bool false, .vec false 1 [.int .i64 2, .int .i64 3], .vec false 1 [], .vec false 1 [.int .i64 2], .vec false 1 [.vec false 1 [.int .i64 1, .int .i64 4], .vec false 1 [.int .i64 1, .int .i64 3, .int .i64 7], .vec false 1 [.int .i64 2, .int .i64 5, .int .i64 7]]],
 .agg [.str [88, 75], .bool false, .vec false 1 [.int .i64 0, .int .i64 2, .int .i64 3], .vec false 1 [], .vec false 1 [.int .i64 2], .vec false 1 [.vec false 1 [.int .i64 7, .int .i64 1, .int .i64 4], .vec false 1 [.int .i64 1, .int .i64 3, .int .i64 7], .vec false 1 [.int .i64 2, .int .i64 5, .int .i64 7]]],
 .agg [.str [88, 75], .bool false, .vec false 1 [.int .i64 1, .int .i64 2, .int .i64 3], .vec false 1 [], .vec false 1 [.int .i64 2], .vec false 1 [.vec false 1 [.int .i64 1, .int .i64 4, .int .i64 7], .vec false 1 [.int .i64 1, .int .i64 3, .int .i64 7], .vec false 1 [.int .i64 2, .int .i64 5, .int .i64 7]]],
 .agg [.str [88, 75], .bool false, .vec false 1 [.int .i64 0, .int .i64 1, .int .i64 2, .int .i64 3], .vec false 1 [], .vec false 1 [.int .i64 2], .vec false 1 [.vec false 1 [.int .i64 7, .int .i64 1, .int .i64 4, .int .i64 7], .vec false 1 [.int .i64 1, .int .i64 3, .int .i64 7], .vec false 1 [.int .i64 2, .int .i64 5, .int .i64 7]]],
 .agg [.str [88, 88, 102, 97, 108, 108, 98, 97, 99, 107], .bool true, .vec false 1 [], .vec false 1 [.int .i64 1], .vec false 1 [], .vec false 1 [.vec false 1 [.int .i64 1, .int .i64 3, .int .i64 2, .int .i64 4], .vec false 1 [.int .i64 2, .int .i64 5]]]]
theorem tabW_eq : allW = tabW := by kernel_rfl
theorem tabA_eq : tabP.map patL = tabA := by kernel_rfl
def idxF : List (List UInt8 × List Int) → List UInt8 → List Int → Nat
 | [], _, _ => 0
 | a :: r, s, l => bif a.1 == s && a.2 == l then 0 else idxF r s l + 1
def outAt : List AV → Nat → Out
 | [], _ => .ret (.tup []) []
 | a :: _, 0 => .ret (.tup [a, .int .i64 0]) []
 | _ :: r, n + 1 => outAt r n
def withO (s : List UInt8) (l : List Int) : Out := outAt tabA (idxF tabW s l)
theorem withO_all : (tabW.map fun x => withO x.1 x.2) = tabW.map fun x => .ret (.tup [patL (withP x.1 x.2), .int .i64 0]) [] := by kernel_rfl
theorem withO_eq {s : List UInt8} {l : List Int} (h : isW s l = true) : withO s l = .ret (.tup [patL (withP s l), .int .i64 0]) [] := by
 have h1 : (s, l) ∈ tabW := by rw [← tabW_eq]; exact of_decide_eq_true h
 exact List.map_inj_left.1 withO_all (s, l) h1
def isWT (s : List UInt8) (l : List Int) : Bool := tabW.any fun a => a.1 == s && a.2 == l
theorem isWT_iff {s : List UInt8} {l : List Int} : isWT s l = true ↔ isW s l = true := by
 unfold isWT isW
 rw [List.any_eq_true, decide_eq_true_eq, tabW_eq]
 constructor
 ·rintro ⟨⟨a, b⟩, h, h2⟩
  simp only [Bool.and_eq_true, beq_iff_eq] at h2
  obtain ⟨rfl, rfl⟩ := h2
  exact h
 ·intro h
  exact ⟨(s, l), h, by simp⟩
theorem okTs_pure {x : AV} (h : okTs x = true) : pureA x = true := by
 cases x with
 | vec b k l =>
  simp only [okTs, Bool.and_eq_true, List.all_eq_true] at h
  have key : ∀ m : List AV, (∀ a ∈ m, okIs a = true) → pureL m = true := by
   intro m
   induction m with
   | nil => intro _; rfl
   | cons a m ih => intro h; rw [pureL, ih (fun b hb => h b (by simp [hb])), okIs_pure (h a (by simp))]; rfl
  exact key l h.2
 | _ => first | rfl | simp [okTs] at h
theorem pureL_app : ∀ (l m : List AV), pureL (l ++ m) = (pureL l && pureL m)
 | [], m => by simp [pureL]
 | a :: l, m => by rw [List.cons_append, pureL, pureL, pureL_app l m, Bool.and_assoc]
mutual
theorem pureA_fl : ∀ a : AV, pureL (flA a) = pureA a
 | .agg l => pureL_fl l
 | .any | .raw _ | .int _ _ | .u8 _ | .u32 _ | .u64 _ | .bool _ | .str _ | .b8 _ _ | .w32 _ _ | .w64 _ _ | .n64 _ _ | .ptr _ _ | .pix _ _ _ _ | .sl _ _ _ _ | .vec8 _ _ | .vec _ _ _ | .vecr _ _ _ _ | .slv _ _ _ _ | .vp _ _ | .vpx _ _ _ _ | .fn _ _ _ | .tup _ => Bool.and_true _
theorem pureL_fl : ∀ l : List AV, pureL (flL l) = pureL l
 | [] => rfl
 | a :: l => by
  show pureL (flA a ++ flL l) = (pureA a && pureL l)
  rw [pureL_app, pureA_fl a, pureL_fl l]
end
theorem okPat_pure : ∀ {l : List AV}, okPat (flL l) = true → pureA (.agg l) = true := by
 have key : ∀ m : List AV, okPat m = true → pureL m = true
  | [.str b, .bool lt, x, y, z, t], h => by
   simp only [okPat, Bool.and_eq_true] at h
   simp [pureL, pureA, okIs_pure h.1, okIs_pure h.2.1, okIs_pure h.2.2.1, okTs_pure h.2.2.2]
 intro l h
 show pureL l = true
 rw [← pureL_fl]
 exact key _ h
end Go.Pat
namespace Go.Tm
open Go Go.V Go.Pat
def tkOf (who used : Nat) (t : Int) : Tk := if t = 1 then .e who else if t = 2 then .s who else if t = 3 then .ee else if t = 4 then .es else if t = 5 then .se else if t = 6 then .ss else .psk used
def turnT (who : Nat) : List Int → Nat → List Tk × Nat
 | [], u => ([], u)
 | t :: l, u => (tkOf who u t :: (turnT who l (if t = 7 then u + 1 else u)).1, (turnT who l (if t = 7 then u + 1 else u)).2)
def toksF (late : Bool) : List (List Int) → Nat → Nat → List Tk
 | [], _, _ => []
 | l :: r, i, u => (turnT (if late then 1 - i % 2 else i % 2) l u).1 ++ .text i :: toksF late r (i + 1) (turnT (if late then 1 - i % 2 else i % 2) l u).2
def toksP (p : Pat) : List Tk := toksF p.late p.turns 0 0
def toldP (p : Pat) : List Tm := toldT (!p.psks.isEmpty) (toksP p)
def pairsP (p : Pat) (i : Nat) : List (Int × Int) := (aheadOf i (toksP p)).filterMap fun
 | .ee => some (3, 4) | .es => some (3, 2) | .se => some (1, 4) | .ss => some (1, 2) | _ => none
def singleP (p : Pat) (i : Nat) : List Int := (aheadOf i (toksP p)).filterMap fun
 | .psk k => some (10 + (k : Int)) | _ => none
def goodB (t : Tm) : Bool := decide (formT t = 0) && (decide (dpT t ≤ 20) && smT t)
def chkT (p : Pat) : Bool := ((toksP p).all (needs [] (toksP p)) && (toldP p).all goodB) && ((decide (tmSzL (toldP p) ≤ 250) && (p.pre0.all (·!= 1) && p.pre1.all (·!= 1))) && ((List.range p.turns.length).all (fun i => (toksP p).contains (.text i)) && decide (2 ≤ p.turns.length ∧ p.turns.length ≤ 10)))
def tabH : List Pat := tabP.filter chkT
theorem tab_of {p : Pat} (h : p ∈ tabH) : chkT p = true := (List.mem_filter.1 h).2
def wantB (S : List Int) (a : List (Int × Int)) (b : List Int) : Bool := a.any (fun x => !(S.contains x.1) && !(S.contains x.2)) || b.any fun x => !(S.contains x)
theorem want_any (S : List Int) : ∀ l : List Tk, l.any (badT S) = wantB S (l.filterMap fun | .ee => some (3, 4) | .es => some (3, 2) | .se => some (1, 4) | .ss => some (1, 2) | _ => none) (l.filterMap fun | .psk k => some (10 + (k : Int)) | _ => none)
 | [] => rfl
 | t :: l => by
  have ih := want_any S l
  unfold wantB at ih ⊢
  rw [List.any_cons, ih]
  cases t <;> simp only [List.filterMap_cons, List.any_cons, badT, Bool.false_or, Bool.or_assoc]
  rw [← Bool.or_assoc, Bool.or_comm (!(S.contains _)), Bool.or_assoc]
theorem good_of {t : Tm} (h : goodB t = true) : good t := by
 unfold goodB at h
 simp only [Bool.and_eq_true, decide_eq_true_eq] at h
 exact h
theorem base_good {S : List Int} (hS : ∀ n ∈ S, 0 ≤ n) : ∀ t ∈ baseT [] S, good t := by
 intro t ht
 have hp : ∀ n : Int, 0 ≤ n → good (pubT n) := fun n h => by
  refine ⟨?_, by simp [pubT, dpT, dpL], rfl⟩
  show formT (.mk 2 n 0 []) = 0
  rw [formT, if_neg (by decide)]
  have : okF 2 n 0 ([] : List Tm).length = true := by
   unfold okF
   rw [if_neg (by decide), if_pos (by decide), decide_eq_true h]
   rfl
  rw [this]; rfl
 rcases mem_base.1 ht with (h | h | h) | ⟨w, hw, h⟩ | ⟨n, hn, h⟩
 ·rw [h]; exact (good_atom (by decide)).1
 ·rw [h]; exact hp 1 (by decide)
 ·rw [h]; exact hp 2 (by decide)
 ·cases hw
 ·rw [h]; exact (good_atom (hS n hn)).1
theorem base_size (S : List Int) : tmSzL (baseT [] S) = 3 + S.length := by
 have h : ∀ S : List Int, tmSzL (S.map atomT) = S.length := by
  intro S
  induction S with
  | nil => rfl
  | cons a S ih => rw [List.map_cons, tmSzL, ih]; show 1 + 0 + S.length = S.length + 1; omega
 unfold baseT
 rw [tmSzL_append, tmSzL_append, h]
 show 3 + 0 + S.length = 3 + S.length
 omega
theorem hidden_knows {p : Pat} (hp : p ∈ tabH) {S : List Int} (hS : ∀ n ∈ S, 0 ≤ n ∧ n < 20) (hl : S.length ≤ 6) {i : Nat} (hi : i < p.turns.length) :
  knowsT (baseT [] S ++ toldP p) (atomT (20 + (i : Int))) = (!(wantB S (pairsP p i) (singleP p i)), 0) := by
 have hc := tab_of hp
 unfold chkT at hc
 simp only [Bool.and_eq_true, decide_eq_true_eq, List.all_eq_true] at hc
 obtain ⟨⟨h1, h2⟩, ⟨h3, _, _⟩, h4, h5⟩ := hc
 have hg : ∀ t ∈ baseT [] S ++ toldP p, good t := by
  intro t ht
  rcases List.mem_append.1 ht with h | h
  ·exact base_good (fun n hn => (hS n hn).1) t h
  ·exact good_of (h2 t h)
 have hs : tmSzL (baseT [] S ++ toldP p) ≤ 300 := by rw [tmSzL_append, base_size]; omega
 obtain ⟨k1, k2⟩ := knows_good (t := atomT (20 + (i : Int))) hg hs (good_atom (by omega)).1 (by rw [(good_atom (show (0 : Int) ≤ 20 + (i : Int) by omega)).2]; omega)
 rw [k1]
 have ht : Tk.text i ∈ toksP p := List.contains_iff_mem.1 (h4 i (List.mem_range.2 hi))
 have := hidden_law (psks := !p.psks.isEmpty) (pres := []) (l := toksP p) (S := S) (i := i) ht h1 (fun n hn => (hS n hn).2) k2
 rw [show toldP p = toldT (!p.psks.isEmpty) (toksP p) from rfl, this, want_any]
 rfl
def prF (l : List (Int × Int)) (i : Nat) : List AV := [.int .i64 (l.getD i (0, 0)).1, .int .i64 (l.getD i (0, 0)).2]
def vP (l : List (Int × Int)) : AV := .vecr false 2 l.length (prF l)
def pr1 : List AV → Int × Int
 | [.int _ a, .int _ b] => (a, b)
 | _ => (0, 0)
def prOk1 : List AV → Bool
 | [.int .i64 _, .int .i64 _] => true
 | _ => false
theorem pr1_eq {l : List AV} (h : prOk1 l = true) : l = [.int .i64 (pr1 l).1, .int .i64 (pr1 l).2] := by
 unfold prOk1 at h
 split at h
 ·rfl
 ·cases h
def rdPs : AV → List (Int × Int)
 | .vec _ _ l => l.map fun a => pr1 a.cells
 | _ => []
def okPs : AV → Bool
 | .vec _ k l => k == 2 && l.all fun a => prOk1 a.cells
 | .vec8 b l => b && l.isEmpty
 | _ => false
theorem okPs_le {x : AV} (h : okPs x = true) : leV x (vP (rdPs x)) := by
 cases x with
 | vec b k l =>
  simp only [okPs, Bool.and_eq_true, beq_iff_eq, List.all_eq_true] at h
  obtain ⟨rfl, h⟩ := h
  have hr : ∀ i, i < l.length → rowF l i = prF (l.map fun a => pr1 a.cells) i := by
   intro i hi
   have := pr1_eq (h l[i] (List.getElem_mem hi))
   unfold rowF prF
   rw [List.getD_eq_getElem?_getD, List.getD_eq_getElem?_getD, List.getElem?_map, List.getElem?_eq_getElem hi]
   simp only [Option.getD_some, Option.map_some]
   exact this
  have e : (rdPs (.vec b 2 l)) = l.map fun a => pr1 a.cells := rfl
  rw [e]
  unfold vP
  rw [List.length_map]
  refine (leV_vec fun i hi => by rw [hr i hi]; rfl).trans (leV_vecr (by simp) fun i hi => leR.of_eq rfl (hr i hi))
 | vec8 b l =>
  simp only [okPs, Bool.and_eq_true] at h
  exact leV_nil (by cases b <;> simp_all [nilS])
 | _ => simp [okPs] at h
def qMix (a : List (Int × Int)) (b : List Int) : AV → Bool
 | .tup [x, y] => (okPs x && decide (rdPs x = a)) && (okIs y && decide (rdIs y = b))
 | _ => false
theorem qMix_le {a : List (Int × Int)} {b : List Int} {x : AV} (h : qMix a b x = true) : leV x (.tup [vP a, vI b]) := by
 unfold qMix at h
 split at h
 ·simp only [Bool.and_eq_true, decide_eq_true_eq] at h
  obtain ⟨⟨h1, rfl⟩, h2, rfl⟩ := h
  exact leV_tup (leRV_cons (okPs_le h1) (leRV_cons (okIs_le h2) leRV_nil))
 ·cases h
mutual
def eqT : Tm → Tm → Bool
 | .mk k i o as, .mk k' i' o' as' => (k == k' && (i == i' && o == o')) && eqTL as as'
def eqTL : List Tm → List Tm → Bool
 | [], [] => true
 | a :: as, b :: bs => eqT a b && eqTL as bs
 | _, _ => false
end
mutual
theorem eqT_eq : ∀ {a b : Tm}, eqT a b = true → a = b
 | .mk k i o as, .mk k' i' o' as', h => by
  simp only [eqT, Bool.and_eq_true, beq_iff_eq] at h
  obtain ⟨⟨rfl, rfl, rfl⟩, h⟩ := h
  rw [eqTL_eq h]
theorem eqTL_eq : ∀ {a b : List Tm}, eqTL a b = true → a = b
 | [], [], _ => rfl
 | a :: as, b :: bs, h => by
  simp only [eqTL, Bool.and_eq_true] at h
  rw [eqT_eq h.1, eqTL_eq h.2]
 | [], _ :: _, h => by simp [eqTL] at h
 | _ :: _, [], h => by simp [eqTL] at h
end
def qTold (l : List Tm) : AV → Bool
 | .tup [x, .int .i64 e] => (okT x && eqTL (rdA x) l) && e == 0
 | _ => false
theorem qTold_le {l : List Tm} {x : AV} (h : qTold l x = true) : leV x (.tup [.vecr false 4 l.length (tmF l), .int .i64 0]) := by
 unfold qTold at h
 split at h
 ·simp only [Bool.and_eq_true, beq_iff_eq] at h
  obtain ⟨⟨h1, h2⟩, rfl⟩ := h
  refine leV_tup (leRV_cons ?_ (leRV_cons (leV.refl _) leRV_nil))
  have := okT_le _ h1
  rw [eqTL_eq h2] at this
  exact this
 ·cases h
def secT (k : Nat) : List Int := ([(0, 1), (1, 2), (2, 3), (3, 4), (4, 10), (5, 11)] : List (Nat × Int)).filterMap fun x => if (k / 2 ^ x.1) % 2 == 1 then some x.2 else none
theorem sec_small (k : Nat) : (∀ n ∈ secT k, 0 ≤ n ∧ n < 20) ∧ (secT k).length ≤ 6 := by
 refine ⟨fun n hn => ?_, List.length_filterMap_le ..⟩
 unfold secT at hn
 rw [List.mem_filterMap] at hn
 obtain ⟨x, hx, h⟩ := hn
 split at h
 ·simp only [Option.some.injEq] at h
  subst h
  simp only [List.mem_cons, List.not_mem_nil, or_false] at hx
  rcases hx with rfl | rfl | rfl | rfl | rfl | rfl <;> decide
 ·cases h
theorem intF_inj {a b : List Int} (hl : a.length = b.length) (h : intF a = intF b) : a = b := by
 apply List.ext_getElem hl
 intro i h1 h2
 have := congrFun h i
 unfold intF at this
 simp only [List.getD_eq_getElem?_getD, List.getElem?_eq_getElem h1, List.getElem?_eq_getElem h2, Option.getD_some, List.cons.injEq, AV.int.injEq, true_and, and_true] at this
 exact this
theorem trF_inj {a b : List (List Int)} (hl : a.length = b.length) (h : trF a = trF b) : a = b := by
 apply List.ext_getElem hl
 intro i h1 h2
 have := congrFun h i
 unfold trF at this
 simp only [List.getD_eq_getElem?_getD, List.getElem?_eq_getElem h1, List.getElem?_eq_getElem h2, Option.getD_some, List.cons.injEq, AV.vecr.injEq, true_and, and_true] at this
 exact intF_inj this.1 this.2
theorem patC_inj {p q : Pat} (h : patC p = patC q) : p = q := by
 unfold patC at h
 simp only [List.cons.injEq, AV.str.injEq, AV.bool.injEq, AV.vecr.injEq, true_and, and_true] at h
 obtain ⟨h1, h2, ⟨a1, a2⟩, ⟨b1, b2⟩, ⟨c1, c2⟩, d1, d2⟩ := h
 cases p; cases q
 simp only at *
 rw [h1, h2, intF_inj a1 a2, intF_inj b1 b2, intF_inj c1 c2, trF_inj d1 d2]
noncomputable def patOf (c : List AV) : Pat := @dite _ (∃ p : Pat, c = patC p) (Classical.propDecidable _) (fun h => Classical.choose h) (fun _ => default)
theorem patOf_eq (p : Pat) : patOf (patC p) = p := by
 have h : ∃ q : Pat, patC p = patC q := ⟨p, rfl⟩
 unfold patOf
 rw [dif_pos h]
 exact (patC_inj (Classical.choose_spec h)).symm
noncomputable def isHF (c : List AV) : Bool := yes (∃ p ∈ tabH, c = patC p)
noncomputable def isH : List AV → Bool := (sealed isHF).val
theorem isH_iff {c : List AV} : isH c = true ↔ ∃ p ∈ tabH, c = patC p := by rw [isH, (sealed isHF).property]; exact yes_iff
theorem cat_rows {a b : List Tm} {n m : Nat} {f g : Nat → List AV} (hn : n = a.length) (hm : m = b.length) (hs : n + m ≤ 1000) (hf : ∀ i, i < n → okC (f i) = true ∧ rdL (f i) = a.getD i tm0) (hg : ∀ i, i < m → okC (g i) = true ∧ rdL (g i) = b.getD i tm0) :
  okTS (.vecr false 4 (n + m) (catF n f g)) = true ∧ rdTS (.vecr false 4 (n + m) (catF n f g)) = a ++ b := by
 subst hn; subst hm
 have key : ∀ i, i < a.length + b.length → okC (catF a.length f g i) = true ∧ rdL (catF a.length f g i) = (a ++ b).getD i tm0 := by
  intro i hi
  unfold catF
  rcases Nat.lt_or_ge i a.length with h | h
  ·rw [ltB_iff.2 h, List.getD_eq_getElem?_getD, List.getElem?_append_left h, ← List.getD_eq_getElem?_getD]; exact hf i h
  ·rw [ltB_no (by omega), List.getD_eq_getElem?_getD, List.getElem?_append_right h, ← List.getD_eq_getElem?_getD]; exact hg _ (by omega)
 constructor
 ·rw [okTS_eq]; exact okT_rows hs fun i hi => (key i hi).1
 ·rw [rdTS_eq]; exact rdT_rows _ (by rw [List.length_append]) fun i hi => (key i hi).2
theorem base_len (S : List Int) : (baseT [] S).length = 3 + S.length := by
 unfold baseT
 rw [List.length_append, List.length_append, List.length_map, List.length_map]
 rfl
theorem base_get (S : List Int) {j : Nat} (hj : j < S.length) : (baseT [] S).getD (3 + j) tm0 = atomT (S.getD j 0) := by
 have e : baseT [] S = [atomT 0, pubT 1, pubT 2] ++ S.map atomT := by unfold baseT; rw [List.map_nil, List.append_nil]
 rw [e, List.getD_eq_getElem?_getD, List.getElem?_append_right (by show 3 ≤ 3 + j; omega), show 3 + j - [atomT 0, pubT 1, pubT 2].length = j by show 3 + j - 3 = j; omega, List.getElem?_map, List.getD_eq_getElem?_getD, List.getElem?_eq_getElem hj]
 rfl
theorem row_nil (k n : Int) : leR [.int .i64 k, .int .i64 n, .int .i64 0, .vec true 4 []] (tmK (.mk k n 0 [])) :=
 leR_same rfl (leR_same rfl (leR_same rfl (leR_nil rfl leR_end)))
theorem base_row0 (S : List Int) {w : Nat} (hw : w < 3) : leR (rowF [.agg [.int .i64 1, .int .i64 0, .int .i64 0, .vec true 4 []], .agg [.int .i64 2, .int .i64 1, .int .i64 0, .vec true 4 []], .agg [.int .i64 2, .int .i64 2, .int .i64 0, .vec true 4 []]] w) (tmF (baseT [] S) w) := by
 rw [tmF_eq]
 rcases w with _ | _ | _ | w
 ·exact row_nil 1 0
 ·exact row_nil 2 1
 ·exact row_nil 2 2
 ·omega
theorem base_row (S : List Int) {j : Nat} (hj : j < S.length) {w : Nat} (hw : w < 3 + j + 1) : leR (catF (3 + j) (tmF (baseT [] S)) (rowF [.agg [.int .i64 1, .int .i64 (S.getD j 0), .int .i64 0, .vec true 4 []]]) w) (tmF (baseT [] S) w) := by
 unfold catF
 cases hb : ltB w (3 + j) with
 | true => exact leR.refl (okL_tmK _)
 | false =>
  have : ¬ w < 3 + j := fun h => by rw [ltB_iff.2 h] at hb; cases hb
  obtain rfl : w = 3 + j := by omega
  rw [Nat.sub_self, tmF_eq, base_get S hj]
  exact row_nil 1 _
noncomputable def hidF (p : Pat) (S : List Int) (i : Int) : Bool × Int := if i < 0 ∨ (p.turns.length : Int) ≤ i ∨ 6 < S.length then (false, 6) else (wantB S (pairsP p i.toNat) (singleP p i.toNat), 0)
noncomputable def hidR : Pat → List Int → Int → Bool × Int := (sealed hidF).val
theorem hidR_eq (p : Pat) (S : List Int) (i : Int) : hidR p S i = hidF p S i := by rw [hidR, (sealed hidF).property]
theorem told_len {p : Pat} (hp : p ∈ tabH) : (toldP p).length ≤ 250 ∧ smL (toldP p) = true ∧ (∀ x ∈ p.pre0, x ≠ 1) ∧ (∀ x ∈ p.pre1, x ≠ 1) ∧ 2 ≤ p.turns.length ∧ p.turns.length ≤ 10 := by
 have hc := tab_of hp
 unfold chkT at hc
 simp only [Bool.and_eq_true, decide_eq_true_eq, List.all_eq_true, bne_iff_ne] at hc
 obtain ⟨⟨h1, h2⟩, ⟨h3, h6, h7⟩, h4, h5⟩ := hc
 exact ⟨Nat.le_trans (tmSzL_len _) h3, smL_iff.2 fun t ht => (good_of (h2 t ht)).2.2, h6, h7, h5⟩
theorem tab_pre : tabH.all (fun p => decide (p.pre0.length ≤ 10) && decide (p.pre1.length ≤ 10)) = true := by kernel_rfl
theorem pre_len {p : Pat} (hp : p ∈ tabH) : p.pre0.length ≤ 10 ∧ p.pre1.length ≤ 10 := by
 have := List.all_eq_true.1 tab_pre p hp
 rw [Bool.and_eq_true] at this
 exact ⟨of_decide_eq_true this.1, of_decide_eq_true this.2⟩
theorem base_sm {S : List Int} (hS : ∀ n ∈ S, 0 ≤ n) : smL (baseT [] S) = true := smL_iff.2 fun t ht => (base_good hS t ht).2.2
noncomputable def okIS : AV → Bool := (sealed okIs).val
theorem okIS_eq : okIS = okIs := by rw [okIS, (sealed okIs).property]
noncomputable def rdIS : AV → List Int := (sealed rdIs).val
theorem rdIS_eq : rdIS = rdIs := by rw [rdIS, (sealed rdIs).property]
theorem okIS_vI (l : List Int) : okIS (vI l) = true := by rw [okIS_eq]; exact okIs_vI l
theorem rdIS_vI (l : List Int) : rdIS (vI l) = l := by rw [rdIS_eq]; exact rdIs_vI l
def goodI (l : List Int) : Bool := l.all fun n => decide (0 ≤ n) && decide (n < 20)
noncomputable def goodS : List Int → Bool := (sealed goodI).val
theorem goodS_iff {l : List Int} : goodS l = true ↔ ∀ n ∈ l, 0 ≤ n ∧ n < 20 := by
 rw [goodS, (sealed goodI).property, goodI, List.all_eq_true]
 simp only [Bool.and_eq_true, decide_eq_true_eq]
noncomputable def hasI : List Int → Int → Bool := (sealed fun (l : List Int) (n : Int) => l.contains n).val
theorem hasI_eq (l : List Int) (n : Int) : hasI l n = l.contains n := by rw [hasI, (sealed fun (l : List Int) (n : Int) => l.contains n).property]
end Go.Tm