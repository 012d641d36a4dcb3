import Derived.Test.YtehaohfglolljaaGreatDoorProg
import Derived.Test.YtehaohfglolljaaGreatDoorZzac
import Derived.Test.YtehaohfglolljaaGreatDoorZzaf
import Derived.KernelRfl
set_option linter.unusedSimpArgs false
set_option linter.unusedVariables false
namespace Go.Proofs
open Go Go.V
set_option maxRecDepth 100000
def Tryz.ti1 : TI := ⟨1, 8, .other, some (.raw .nilFunc), false, false⟩
def Tryz.ti2 : TI := ⟨1, 8, .int .i64, some (.int .i64 0), false, false⟩
def Tryz.ti3 : TI := Tryz.ti2
def Tryz.ti4 : TI := ⟨1, 1, .bool, some (.bool false), false, false⟩
def Tryz.ti5 : TI := ⟨1, 1, .int .u8, some (.u8 0), false, false⟩
def Tryz.ti6 : TI := Tryz.ti5
def Tryz.ti7 : TI := ⟨4, 24, .str [(0, 2), (1, 3), (2, 4), (3, 6)], some (.agg [.int .i64 0, .int .i64 0, .bool false, .u8 0]), false, false⟩
def Tryz.ti8 : TI := Tryz.ti7
def Tryz.ti9 : TI := ⟨1, 16, .string, some (.str []), false, false⟩
def Tryz.ti10 : TI := Tryz.ti9
def Tryz.ti11 : TI := Tryz.ti9
def Tryz.ti12 : TI := ⟨1, 8, .int .u64, some (.u64 0), false, false⟩
def Tryz.ti13 : TI := ⟨2, 24, .str [(0, 9), (1, 12)], some (.agg [.str [], .u64 0]), false, false⟩
def Tryz.ti14 : TI := Tryz.ti13
def Tryz.ti15 : TI := ⟨1, 8, .ptr 227, some (.raw (.pointer none)), false, false⟩
def Tryz.ti16 : TI := ⟨1, 8, .ptr 230, some (.raw (.pointer none)), false, false⟩
def Tryz.ti17 : TI := ⟨1, 8, .ptr 238, some (.raw (.pointer none)), false, false⟩
def Tryz.ti18 : TI := ⟨1, 8, .str [(0, 17)], some (.agg [.raw (.pointer none)]), false, false⟩
def Tryz.ti19 : TI := Tryz.ti18
def Tryz.ti21 : TI := ⟨1, 4, .int .i32, some (.int .i32 0), false, false⟩
def Tryz.ti22 : TI := ⟨32, 32, .arr 32 5, some (.b8 32 [0, 0, 0, 0, 0, 0, 0, 0, 0, 0, 0, 0, 0, 0, 0, 0, 0, 0, 0, 0, 0, 0, 0, 0, 0, 0, 0, 0, 0, 0, 0, 0]), true, false⟩
def Tryz.ti23 : TI := ⟨1, 24, .slice 3, some (.vec true 1 []), false, false⟩
def Tryz.ti24 : TI := ⟨2, 48, .arr 2 23, some (.agg [.vec true 1 [], .vec true 1 []]), false, false⟩
def Tryz.ti25 : TI := ⟨1, 24, .slice 23, some (.vec true 1 []), false, false⟩
def Tryz.ti26 : TI := ⟨6, 120, .str [(0, 9), (1, 4), (2, 23), (3, 24), (5, 25)], some (.agg [.str [], .bool false, .vec true 1 [], .agg [.vec true 1 [], .vec true 1 []], .vec true 1 []]), false, false⟩
def Tryz.ti27 : TI := Tryz.ti26
def Tryz.ti28 : TI := Tryz.ti22
def Tryz.ti29 : TI := Tryz.ti12
def Tryz.ti30 : TI := ⟨34, 48, .str [(0, 4), (1, 28), (33, 29)], some (.agg [.bool false, .b8 32 [0, 0, 0, 0, 0, 0, 0, 0, 0, 0, 0, 0, 0, 0, 0, 0, 0, 0, 0, 0, 0, 0, 0, 0, 0, 0, 0, 0, 0, 0, 0, 0], .u64 0]), true, true⟩
def Tryz.ti31 : TI := Tryz.ti30
def Tryz.ti32 : TI := ⟨98, 112, .str [(0, 31), (34, 28), (66, 28)], some (.agg [.agg [.bool false, .b8 32 [0, 0, 0, 0, 0, 0, 0, 0, 0, 0, 0, 0, 0, 0, 0, 0, 0, 0, 0, 0, 0, 0, 0, 0, 0, 0, 0, 0, 0, 0, 0, 0], .u64 0], .b8 32 [0, 0, 0, 0, 0, 0, 0, 0, 0, 0, 0, 0, 0, 0, 0, 0, 0, 0, 0, 0, 0, 0, 0, 0, 0, 0, 0, 0, 0, 0, 0, 0], .b8 32 [0, 0, 0, 0, 0, 0, 0, 0, 0, 0, 0, 0, 0, 0, 0, 0, 0, 0, 0, 0, 0, 0, 0, 0, 0, 0, 0, 0, 0, 0, 0, 0]]), true, true⟩
def Tryz.ti33 : TI := Tryz.ti32
def Tryz.ti34 : TI := ⟨1, 24, .slice 28, some (.vec true 32 []), false, false⟩
def Tryz.ti35 : TI := ⟨240, 424, .str [(0, 27), (6, 4), (7, 3), (8, 4), (9, 33), (107, 28), (139, 28), (171, 4), (172, 28), (204, 4), (205, 28), (237, 4), (238, 34), (239, 3)], some (.agg [.agg [.str [], .bool false, .vec true 1 [], .agg [.vec true 1 [], .vec true 1 []], .vec true 1 []], .bool false, .int .i64 0, .bool false, .agg [.agg [.bool false, .b8 32 [0, 0, 0, 0, 0, 0, 0, 0, 0, 0, 0, 0, 0, 0, 0, 0, 0, 0, 0, 0, 0, 0, 0, 0, 0, 0, 0, 0, 0, 0, 0, 0], .u64 0], .b8 32 [0, 0, 0, 0, 0, 0, 0, 0, 0, 0, 0, 0, 0, 0, 0, 0, 0, 0, 0, 0, 0, 0, 0, 0, 0, 0, 0, 0, 0, 0, 0, 0], .b8 32 [0, 0, 0, 0, 0, 0, 0, 0, 0, 0, 0, 0, 0, 0, 0, 0, 0, 0, 0, 0, 0, 0, 0, 0, 0, 0, 0, 0, 0, 0, 0, 0]], .b8 32 [0, 0, 0, 0, 0, 0, 0, 0, 0, 0, 0, 0, 0, 0, 0, 0, 0, 0, 0, 0, 0, 0, 0, 0, 0, 0, 0, 0, 0, 0, 0, 0], .b8 32 [0, 0, 0, 0, 0, 0, 0, 0, 0, 0, 0, 0, 0, 0, 0, 0, 0, 0, 0, 0, 0, 0, 0, 0, 0, 0, 0, 0, 0, 0, 0, 0], .bool false, .b8 32 [0, 0, 0, 0, 0, 0, 0, 0, 0, 0, 0, 0, 0, 0, 0, 0, 0, 0, 0, 0, 0, 0, 0, 0, 0, 0, 0, 0, 0, 0, 0, 0], .bool false, .b8 32 [0, 0, 0, 0, 0, 0, 0, 0, 0, 0, 0, 0, 0, 0, 0, 0, 0, 0, 0, 0, 0, 0, 0, 0, 0, 0, 0, 0, 0, 0, 0, 0], .bool false, .vec true 32 [], .int .i64 0]), false, false⟩
def Tryz.ti36 : TI := Tryz.ti35
def Tryz.ti37 : TI := Tryz.ti2
def Tryz.ti39 : TI := Tryz.ti1
def Tryz.ti40 : TI := Tryz.ti1
def Tryz.ti41 : TI := ⟨1, 24, .slice 5, some (.vec8 true []), false, false⟩
def Tryz.ti43 : TI := Tryz.ti1
def Tryz.ti44 : TI := Tryz.ti1
def Tryz.ti45 : TI := Tryz.ti1
def Tryz.ti46 : TI := ⟨68, 96, .arr 2 31, some (.agg [.agg [.bool false, .b8 32 [0, 0, 0, 0, 0, 0, 0, 0, 0, 0, 0, 0, 0, 0, 0, 0, 0, 0, 0, 0, 0, 0, 0, 0, 0, 0, 0, 0, 0, 0, 0, 0], .u64 0], .agg [.bool false, .b8 32 [0, 0, 0, 0, 0, 0, 0, 0, 0, 0, 0, 0, 0, 0, 0, 0, 0, 0, 0, 0, 0, 0, 0, 0, 0, 0, 0, 0, 0, 0, 0, 0], .u64 0]]), true, false⟩
def Tryz.ti48 : TI := Tryz.ti1
def Tryz.ti49 : TI := Tryz.ti1
def Tryz.ti51 : TI := Tryz.ti1
def Tryz.ti53 : TI := Tryz.ti1
def Tryz.ti54 : TI := ⟨64, 64, .str [(0, 28), (32, 28)], some (.agg [.b8 32 [0, 0, 0, 0, 0, 0, 0, 0, 0, 0, 0, 0, 0, 0, 0, 0, 0, 0, 0, 0, 0, 0, 0, 0, 0, 0, 0, 0, 0, 0, 0, 0], .b8 32 [0, 0, 0, 0, 0, 0, 0, 0, 0, 0, 0, 0, 0, 0, 0, 0, 0, 0, 0, 0, 0, 0, 0, 0, 0, 0, 0, 0, 0, 0, 0, 0]]), true, true⟩
def Tryz.ti55 : TI := Tryz.ti54
def Tryz.ti56 : TI := Tryz.ti1
def Tryz.ti57 : TI := Tryz.ti1
def Tryz.ti58 : TI := Tryz.ti1
def Tryz.ti59 : TI := Tryz.ti1
def Tryz.ti60 : TI := Tryz.ti1
def Tryz.ti62 : TI := Tryz.ti1
def Tryz.ti63 : TI := Tryz.ti1
def Tryz.ti64 : TI := Tryz.ti1
def Tryz.ti65 : TI := ⟨130, 130, .str [(0, 4), (1, 28), (33, 28), (65, 4), (66, 28), (98, 28)], some (.agg [.bool false, .b8 32 [0, 0, 0, 0, 0, 0, 0, 0, 0, 0, 0, 0, 0, 0, 0, 0, 0, 0, 0, 0, 0, 0, 0, 0, 0, 0, 0, 0, 0, 0, 0, 0], .b8 32 [0, 0, 0, 0, 0, 0, 0, 0, 0, 0, 0, 0, 0, 0, 0, 0, 0, 0, 0, 0, 0, 0, 0, 0, 0, 0, 0, 0, 0, 0, 0, 0], .bool false, .b8 32 [0, 0, 0, 0, 0, 0, 0, 0, 0, 0, 0, 0, 0, 0, 0, 0, 0, 0, 0, 0, 0, 0, 0, 0, 0, 0, 0, 0, 0, 0, 0, 0], .b8 32 [0, 0, 0, 0, 0, 0, 0, 0, 0, 0, 0, 0, 0, 0, 0, 0, 0, 0, 0, 0, 0, 0, 0, 0, 0, 0, 0, 0, 0, 0, 0, 0]]), true, true⟩
def Tryz.ti66 : TI := Tryz.ti65
def Tryz.ti68 : TI := Tryz.ti1
def Tryz.ti69 : TI := Tryz.ti1
def Tryz.ti70 : TI := Tryz.ti1
def Tryz.ti71 : TI := Tryz.ti1
def Tryz.ti72 : TI := ⟨1, 8, .ptr 74, some (.raw (.pointer none)), false, false⟩
def Tryz.ti73 : TI := ⟨243, 480, .str [(0, 36), (240, 41), (241, 41), (242, 37)], some (.agg [.agg [.agg [.str [], .bool false, .vec true 1 [], .agg [.vec true 1 [], .vec true 1 []], .vec true 1 []], .bool false, .int .i64 0, .bool false, .agg [.agg [.bool false, .b8 32 [0, 0, 0, 0, 0, 0, 0, 0, 0, 0, 0, 0, 0, 0, 0, 0, 0, 0, 0, 0, 0, 0, 0, 0, 0, 0, 0, 0, 0, 0, 0, 0], .u64 0], .b8 32 [0, 0, 0, 0, 0, 0, 0, 0, 0, 0, 0, 0, 0, 0, 0, 0, 0, 0, 0, 0, 0, 0, 0, 0, 0, 0, 0, 0, 0, 0, 0, 0], .b8 32 [0, 0, 0, 0, 0, 0, 0, 0, 0, 0, 0, 0, 0, 0, 0, 0, 0, 0, 0, 0, 0, 0, 0, 0, 0, 0, 0, 0, 0, 0, 0, 0]], .b8 32 [0, 0, 0, 0, 0, 0, 0, 0, 0, 0, 0, 0, 0, 0, 0, 0, 0, 0, 0, 0, 0, 0, 0, 0, 0, 0, 0, 0, 0, 0, 0, 0], .b8 32 [0, 0, 0, 0, 0, 0, 0, 0, 0, 0, 0, 0, 0, 0, 0, 0, 0, 0, 0, 0, 0, 0, 0, 0, 0, 0, 0, 0, 0, 0, 0, 0], .bool false, .b8 32 [0, 0, 0, 0, 0, 0, 0, 0, 0, 0, 0, 0, 0, 0, 0, 0, 0, 0, 0, 0, 0, 0, 0, 0, 0, 0, 0, 0, 0, 0, 0, 0], .bool false, .b8 32 [0, 0, 0, 0, 0, 0, 0, 0, 0, 0, 0, 0, 0, 0, 0, 0, 0, 0, 0, 0, 0, 0, 0, 0, 0, 0, 0, 0, 0, 0, 0, 0], .bool false, .vec true 32 [], .int .i64 0], .vec8 true [], .vec8 true [], .int .i64 0]), false, false⟩
def Tryz.ti74 : TI := Tryz.ti73
def Tryz.ti75 : TI := Tryz.ti1
def Tryz.ti76 : TI := Tryz.ti1
def Tryz.ti77 : TI := Tryz.ti1
def Tryz.ti78 : TI := Tryz.ti1
def Tryz.ti79 : TI := Tryz.ti1
def Tryz.ti80 : TI := ⟨6, 96, .arr 6 9, some (.agg [.str [], .str [], .str [], .str [], .str [], .str []]), true, false⟩
def Tryz.ti81 : TI := Tryz.ti1
def Tryz.ti82 : TI := Tryz.ti1
def Tryz.ti84 : TI := Tryz.ti1
def Tryz.ti85 : TI := ⟨1, 24, .slice 55, some (.vec true 64 []), false, false⟩
def Tryz.ti86 : TI := Tryz.ti1
def Tryz.ti87 : TI := Tryz.ti1
def Tryz.ti89 : TI := Tryz.ti1
def Tryz.ti90 : TI := Tryz.ti1
def Tryz.ti91 : TI := ⟨1, 24, .slice 9, some (.vec true 1 []), false, false⟩
def Tryz.ti92 : TI := Tryz.ti1
def Tryz.ti93 : TI := Tryz.ti1
def Tryz.ti94 : TI := ⟨64, 64, .arr 2 28, some (.agg [.b8 32 [0, 0, 0, 0, 0, 0, 0, 0, 0, 0, 0, 0, 0, 0, 0, 0, 0, 0, 0, 0, 0, 0, 0, 0, 0, 0, 0, 0, 0, 0, 0, 0], .b8 32 [0, 0, 0, 0, 0, 0, 0, 0, 0, 0, 0, 0, 0, 0, 0, 0, 0, 0, 0, 0, 0, 0, 0, 0, 0, 0, 0, 0, 0, 0, 0, 0]]), true, false⟩
def Tryz.ti95 : TI := Tryz.ti1
def Tryz.ti96 : TI := Tryz.ti1
def Tryz.ti97 : TI := ⟨4, 32, .arr 4 29, some (.w64 4 [0, 0, 0, 0]), true, false⟩
def Tryz.ti98 : TI := Tryz.ti97
def Tryz.ti99 : TI := Tryz.ti1
def Tryz.ti100 : TI := ⟨8, 64, .arr 2 98, some (.agg [.w64 4 [0, 0, 0, 0], .w64 4 [0, 0, 0, 0]]), true, false⟩
def Tryz.ti101 : TI := ⟨16, 128, .str [(0, 100), (8, 100)], some (.agg [.agg [.w64 4 [0, 0, 0, 0], .w64 4 [0, 0, 0, 0]], .agg [.w64 4 [0, 0, 0, 0], .w64 4 [0, 0, 0, 0]]]), true, true⟩
def Tryz.ti102 : TI := Tryz.ti101
def Tryz.ti103 : TI := Tryz.ti1
def Tryz.ti104 : TI := Tryz.ti1
def Tryz.ti106 : TI := Tryz.ti1
def Tryz.ti108 : TI := Tryz.ti1
def Tryz.ti109 : TI := Tryz.ti1
def Tryz.ti110 : TI := Tryz.ti1
def Tryz.ti111 : TI := Tryz.ti1
def Tryz.ti113 : TI := Tryz.ti1
def Tryz.ti114 : TI := Tryz.ti1
def Tryz.ti115 : TI := Tryz.ti1
def Tryz.ti116 : TI := Tryz.ti1
def Tryz.ti117 : TI := Tryz.ti1
def Tryz.ti118 : TI := Tryz.ti1
def Tryz.ti119 : TI := Tryz.ti1
def Tryz.ti120 : TI := ⟨1, 4, .int .u32, some (.u32 0), false, false⟩
def Tryz.ti121 : TI := Tryz.ti1
def Tryz.ti122 : TI := ⟨8, 32, .arr 8 120, some (.w32 8 [0, 0, 0, 0, 0, 0, 0, 0]), true, false⟩
def Tryz.ti123 : TI := ⟨64, 64, .arr 64 5, some (.b8 64 (List.replicate 64 0)), true, false⟩
def Tryz.ti124 : TI := ⟨74, 112, .str [(0, 122), (8, 123), (72, 3), (73, 3)], some (.agg [.w32 8 [0, 0, 0, 0, 0, 0, 0, 0], .b8 64 (List.replicate 64 0), .int .i64 0, .int .i64 0]), true, true⟩
def Tryz.ti125 : TI := Tryz.ti124
def Tryz.ti127 : TI := Tryz.ti1
def Tryz.ti128 : TI := Tryz.ti1
def Tryz.ti130 : TI := Tryz.ti1
def Tryz.ti131 : TI := ⟨96, 96, .arr 3 28, some (.agg [.b8 32 [0, 0, 0, 0, 0, 0, 0, 0, 0, 0, 0, 0, 0, 0, 0, 0, 0, 0, 0, 0, 0, 0, 0, 0, 0, 0, 0, 0, 0, 0, 0, 0], .b8 32 [0, 0, 0, 0, 0, 0, 0, 0, 0, 0, 0, 0, 0, 0, 0, 0, 0, 0, 0, 0, 0, 0, 0, 0, 0, 0, 0, 0, 0, 0, 0, 0], .b8 32 [0, 0, 0, 0, 0, 0, 0, 0, 0, 0, 0, 0, 0, 0, 0, 0, 0, 0, 0, 0, 0, 0, 0, 0, 0, 0, 0, 0, 0, 0, 0, 0]]), true, false⟩
def Tryz.ti132 : TI := Tryz.ti1
def Tryz.ti133 : TI := Tryz.ti1
def Tryz.ti134 : TI := Tryz.ti1
def Tryz.ti135 : TI := Tryz.ti1
def Tryz.ti136 : TI := ⟨1, 8, .ptr 142, some (.raw (.pointer none)), false, false⟩
def Tryz.ti137 : TI := ⟨3, 3, .str [(0, 4), (1, 4), (2, 4)], some (.agg [.bool false, .bool false, .bool false]), true, true⟩
def Tryz.ti138 : TI := Tryz.ti137
def Tryz.ti139 : TI := ⟨6, 6, .arr 2 138, some (.agg [.agg [.bool false, .bool false, .bool false], .agg [.bool false, .bool false, .bool false]]), true, false⟩
def Tryz.ti140 : TI := ⟨8, 8, .arr 8 4, some (.agg [.bool false, .bool false, .bool false, .bool false, .bool false, .bool false, .bool false, .bool false]), true, false⟩
def Tryz.ti141 : TI := ⟨15, 15, .str [(0, 139), (6, 140), (14, 4)], some (.agg [.agg [.agg [.bool false, .bool false, .bool false], .agg [.bool false, .bool false, .bool false]], .agg [.bool false, .bool false, .bool false, .bool false, .bool false, .bool false, .bool false, .bool false], .bool false]), true, true⟩
def Tryz.ti142 : TI := Tryz.ti141
def Tryz.ti143 : TI := Tryz.ti1
def Tryz.ti144 : TI := Tryz.ti1
def Tryz.ti145 : TI := Tryz.ti1
def Tryz.ti146 : TI := Tryz.ti1
def Tryz.ti148 : TI := Tryz.ti1
def Tryz.ti149 : TI := ⟨1, 8, .ptr 151, some (.raw (.pointer none)), false, false⟩
def Tryz.ti150 : TI := ⟨2, 32, .str [(0, 149), (1, 41)], some (.agg [.raw (.pointer none), .vec8 true []]), false, false⟩
def Tryz.ti151 : TI := Tryz.ti150
def Tryz.ti155 : TI := Tryz.ti1
def Tryz.ti156 : TI := Tryz.ti1
def Tryz.ti157 : TI := Tryz.ti1
def Tryz.ti158 : TI := Tryz.ti1
def Tryz.ti159 : TI := Tryz.ti1
def Tryz.ti160 : TI := Tryz.ti12
def Tryz.ti161 : TI := Tryz.ti1
def Tryz.ti162 : TI := Tryz.ti1
def Tryz.ti163 : TI := Tryz.ti1
def Tryz.ti164 : TI := Tryz.ti1
def Tryz.ti165 : TI := Tryz.ti1
def Tryz.ti167 : TI := Tryz.ti1
def Tryz.ti168 : TI := ⟨8, 64, .arr 8 29, some (.w64 8 [0, 0, 0, 0, 0, 0, 0, 0]), true, false⟩
def Tryz.ti170 : TI := Tryz.ti1
def Tryz.ti171 : TI := Tryz.ti1
def Tryz.ti172 : TI := Tryz.ti1
def Tryz.ti173 : TI := Tryz.ti1
def Tryz.ti174 : TI := ⟨1, 8, .ptr 4, some (.raw (.pointer none)), false, false⟩
def Tryz.ti175 : TI := ⟨2, 16, .arr 2 3, some (.agg [.int .i64 0, .int .i64 0]), true, false⟩
def Tryz.ti176 : TI := ⟨4, 32, .arr 2 175, some (.agg [.agg [.int .i64 0, .int .i64 0], .agg [.int .i64 0, .int .i64 0]]), true, false⟩
def Tryz.ti177 : TI := Tryz.ti1
def Tryz.ti178 : TI := Tryz.ti1
def Tryz.ti179 : TI := ⟨1, 8, .ptr 5, some (.raw (.pointer none)), false, false⟩
def Tryz.ti181 : TI := Tryz.ti1
def Tryz.ti182 : TI := Tryz.ti1
def Tryz.ti184 : TI := Tryz.ti1
def Tryz.ti185 : TI := ⟨16, 64, .arr 16 120, some (.w32 16 [0, 0, 0, 0, 0, 0, 0, 0, 0, 0, 0, 0, 0, 0, 0, 0]), true, false⟩
def Tryz.ti186 : TI := Tryz.ti1
def Tryz.ti187 : TI := Tryz.ti1
def Tryz.ti188 : TI := ⟨16, 128, .arr 16 3, some (.agg [.int .i64 0, .int .i64 0, .int .i64 0, .int .i64 0, .int .i64 0, .int .i64 0, .int .i64 0, .int .i64 0, .int .i64 0, .int .i64 0, .int .i64 0, .int .i64 0, .int .i64 0, .int .i64 0, .int .i64 0, .int .i64 0]), true, false⟩
def Tryz.ti189 : TI := ⟨160, 1280, .arr 10 188, some (.agg [.agg [.int .i64 0, .int .i64 0, .int .i64 0, .int .i64 0, .int .i64 0, .int .i64 0, .int .i64 0, .int .i64 0, .int .i64 0, .int .i64 0, .int .i64 0, .int .i64 0, .int .i64 0, .int .i64 0, .int .i64 0, .int .i64 0], .agg [.int .i64 0, .int .i64 0, .int .i64 0, .int .i64 0, .int .i64 0, .int .i64 0, .int .i64 0, .int .i64 0, .int .i64 0, .int .i64 0, .int .i64 0, .int .i64 0, .int .i64 0, .int .i64 0, .int .i64 0, .int .i64 0], .agg [.int .i64 0, .int .i64 0, .int .i64 0, .int .i64 0, .int .i64 0, .int .i64 0, .int .i64 0, .int .i64 0, .int .i64 0, .int .i64 0, .int .i64 0, .int .i64 0, .int .i64 0, .int .i64 0, .int .i64 0, .int .i64 0], .agg [.int .i64 0, .int .i64 0, .int .i64 0, .int .i64 0, .int .i64 0, .int .i64 0, .int .i64 0, .int .i64 0, .int .i64 0, .int .i64 0, .int .i64 0, .int .i64 0, .int .i64 0, .int .i64 0, .int .i64 0, .int .i64 0], .agg [.int .i64 0, .int .i64 0, .int .i64 0, .int .i64 0, .int .i64 0, .int .i64 0, .int .i64 0, .int .i64 0, .int .i64 0, .int .i64 0, .int .i64 0, .int .i64 0, .int .i64 0, .int .i64 0, .int .i64 0, .int .i64 0], .agg [.int .i64 0, .int .i64 0, .int .i64 0, .int .i64 0, .int .i64 0, .int .i64 0, .int .i64 0, .int .i64 0, .int .i64 0, .int .i64 0, .int .i64 0, .int .i64 0, .int .i64 0, .int .i64 0, .int .i64 0, .int .i64 0], .agg [.int .i64 0, .int .i64 0, .int .i64 0, .int .i64 0, .int .i64 0, .int .i64 0, .int .i64 0, .int .i64 0, .int .i64 0, .int .i64 0, .int .i64 0, .int .i64 0, .int .i64 0, .int .i64 0, .int .i64 0, .int .i64 0], .agg [.int .i64 0, .int .i64 0, .int .i64 0, .int .i64 0, .int .i64 0, .int .i64 0, .int .i64 0, .int .i64 0, .int .i64 0, .int .i64 0, .int .i64 0, .int .i64 0, .int .i64 0, .int .i64 0, .int .i64 0, .int .i64 0], .agg [.int .i64 0, .int .i64 0, .int .i64 0, .int .i64 0, .int .i64 0, .int .i64 0, .int .i64 0, .int .i64 0, .int .i64 0, .int .i64 0, .int .i64 0, .int .i64 0, .int .i64 0, .int .i64 0, .int .i64 0, .int .i64 0], .agg [.int .i64 0, .int .i64 0, .int .i64 0, .int .i64 0, .int .i64 0, .int .i64 0, .int .i64 0, .int .i64 0, .int .i64 0, .int .i64 0, .int .i64 0, .int .i64 0, .int .i64 0, .int .i64 0, .int .i64 0, .int .i64 0]]), true, false⟩
def Tryz.ti190 : TI := ⟨1, 24, .slice 41, some (.vec true 1 []), false, false⟩
def Tryz.ti191 : TI := Tryz.ti1
def Tryz.ti193 : TI := ⟨12, 12, .arr 12 5, some (.b8 12 [0, 0, 0, 0, 0, 0, 0, 0, 0, 0, 0, 0]), true, false⟩
def Tryz.ti194 : TI := Tryz.ti1
def Tryz.ti195 : TI := Tryz.ti1
def Tryz.ti196 : TI := ⟨16, 16, .arr 16 5, some (.b8 16 [0, 0, 0, 0, 0, 0, 0, 0, 0, 0, 0, 0, 0, 0, 0, 0]), true, false⟩
def Tryz.ti197 : TI := Tryz.ti1
def Tryz.ti199 : TI := Tryz.ti1
def Tryz.ti200 : TI := Tryz.ti1
def Tryz.ti201 : TI := Tryz.ti1
def Tryz.ti202 : TI := ⟨256, 256, .arr 256 5, some (.b8 256 (List.replicate 256 0)), true, false⟩
def Tryz.ti203 : TI := ⟨2, 2, .str [(0, 5), (1, 5)], some (.agg [.u8 0, .u8 0]), true, true⟩
def Tryz.ti204 : TI := Tryz.ti203
def Tryz.ti205 : TI := ⟨32, 32, .arr 16 204, some (.agg [.agg [.u8 0, .u8 0], .agg [.u8 0, .u8 0], .agg [.u8 0, .u8 0], .agg [.u8 0, .u8 0], .agg [.u8 0, .u8 0], .agg [.u8 0, .u8 0], .agg [.u8 0, .u8 0], .agg [.u8 0, .u8 0], .agg [.u8 0, .u8 0], .agg [.u8 0, .u8 0], .agg [.u8 0, .u8 0], .agg [.u8 0, .u8 0], .agg [.u8 0, .u8 0], .agg [.u8 0, .u8 0], .agg [.u8 0, .u8 0], .agg [.u8 0, .u8 0]]), true, false⟩
def Tryz.ti206 : TI := Tryz.ti185
def Tryz.ti207 : TI := Tryz.ti1
def Tryz.ti208 : TI := Tryz.ti1
def Tryz.ti209 : TI := ⟨1, 8, .ptr 206, some (.raw (.pointer none)), false, false⟩
def Tryz.ti210 : TI := ⟨2, 16, .arr 2 29, some (.w64 2 [0, 0]), true, false⟩
def Tryz.ti211 : TI := ⟨3, 24, .arr 3 29, some (.w64 3 [0, 0, 0]), true, false⟩
def Tryz.ti212 : TI := ⟨24, 80, .str [(0, 210), (2, 210), (4, 211), (7, 196), (23, 3)], some (.agg [.w64 2 [0, 0], .w64 2 [0, 0], .w64 3 [0, 0, 0], .b8 16 [0, 0, 0, 0, 0, 0, 0, 0, 0, 0, 0, 0, 0, 0, 0, 0], .int .i64 0]), true, true⟩
def Tryz.ti213 : TI := Tryz.ti212
def Tryz.ti215 : TI := Tryz.ti1
def Tryz.ti216 : TI := Tryz.ti1
def Tryz.ti218 : TI := Tryz.ti1
def Tryz.ti219 : TI := Tryz.ti1
def Tryz.ti220 : TI := Tryz.ti1
def Tryz.ti221 : TI := Tryz.ti1
def Tryz.ti222 : TI := Tryz.ti1
def Tryz.ti223 : TI := Tryz.ti1
def Tryz.ti224 : TI := Tryz.ti1
def Tryz.ti225 : TI := ⟨5, 40, .arr 5 29, some (.w64 5 [0, 0, 0, 0, 0]), true, false⟩
def Tryz.ti226 : TI := ⟨4, 40, .str [(0, 17), (1, 17), (2, 17), (3, 9)], some (.agg [.raw (.pointer none), .raw (.pointer none), .raw (.pointer none), .str []]), false, false⟩
def Tryz.ti227 : TI := Tryz.ti226
def Tryz.ti228 : TI := ⟨0, 0, .arr 0 16, some (.agg []), false, false⟩
def Tryz.ti229 : TI := ⟨0, 0, .str [(0, 228)], some (.agg []), false, false⟩
def Tryz.ti230 : TI := Tryz.ti229
def Tryz.ti231 : TI := Tryz.ti1
def Tryz.ti232 : TI := Tryz.ti5
def Tryz.ti233 : TI := Tryz.ti5
def Tryz.ti234 : TI := Tryz.ti1
def Tryz.ti235 : TI := Tryz.ti21
def Tryz.ti236 : TI := Tryz.ti21
def Tryz.ti237 : TI := ⟨11, 48, .str [(0, 12), (1, 12), (2, 120), (3, 232), (4, 5), (5, 5), (6, 233), (7, 234), (8, 179), (9, 235), (10, 236)], some (.agg [.u64 0, .u64 0, .u32 0, .u8 0, .u8 0, .u8 0, .u8 0, .raw .nilFunc, .raw (.pointer none), .int .i32 0, .int .i32 0]), false, false⟩
def Tryz.ti238 : TI := Tryz.ti237
def Tryz.tis : List (Option TI) := [none, some Tryz.ti1, some Tryz.ti2, some Tryz.ti3, some Tryz.ti4, some Tryz.ti5, some Tryz.ti6, some Tryz.ti7, some Tryz.ti8, some Tryz.ti9, some Tryz.ti10, some Tryz.ti11, some Tryz.ti12, some Tryz.ti13, some Tryz.ti14, some Tryz.ti15, some Tryz.ti16, some Tryz.ti17, some Tryz.ti18, some Tryz.ti19, none, some Tryz.ti21, some Tryz.ti22, some Tryz.ti23, some Tryz.ti24, some Tryz.ti25, some Tryz.ti26, some Tryz.ti27, some Tryz.ti28, some Tryz.ti29, some Tryz.ti30, some Tryz.ti31, some Tryz.ti32, some Tryz.ti33, some Tryz.ti34, some Tryz.ti35, some Tryz.ti36, some Tryz.ti37, none, some Tryz.ti39, some Tryz.ti40, some Tryz.ti41, none, some Tryz.ti43, some Tryz.ti44, some Tryz.ti45, some Tryz.ti46, none, some Tryz.ti48, some Tryz.ti49, none, some Tryz.ti51, none, some Tryz.ti53, some Tryz.ti54, some Tryz.ti55, some Tryz.ti56, some Tryz.ti57, some Tryz.ti58, some Tryz.ti59, some Tryz.ti60, none, some Tryz.ti62, some Tryz.ti63, some Tryz.ti64, some Tryz.ti65, some Tryz.ti66, none, some Tryz.ti68, some Tryz.ti69, some Tryz.ti70, some Tryz.ti71, some Tryz.ti72, some Tryz.ti73, some Tryz.ti74, some Tryz.ti75, some Tryz.ti76, some Tryz.ti77, some Tryz.ti78, some Tryz.ti79, some Tryz.ti80, some Tryz.ti81, some Tryz.ti82, none, some Tryz.ti84, some Tryz.ti85, some Tryz.ti86, some Tryz.ti87, none, some Tryz.ti89, some Tryz.ti90, some Tryz.ti91, some Tryz.ti92, some Tryz.ti93, some Tryz.ti94, some Tryz.ti95, some Tryz.ti96, some Tryz.ti97, some Tryz.ti98, some Tryz.ti99, some Tryz.ti100, some Tryz.ti101, some Tryz.ti102, some Tryz.ti103, some Tryz.ti104, none, some Tryz.ti106, none, some Tryz.ti108, some Tryz.ti109, some Tryz.ti110, some Tryz.ti111, none, some Tryz.ti113, some Tryz.ti114, some Tryz.ti115, some Tryz.ti116, some Tryz.ti117, some Tryz.ti118, some Tryz.ti119, some Tryz.ti120, some Tryz.ti121, some Tryz.ti122, some Tryz.ti123, some Tryz.ti124, some Tryz.ti125, none, some Tryz.ti127, some Tryz.ti128, none, some Tryz.ti130, some Tryz.ti131, some Tryz.ti132, some Tryz.ti133, some Tryz.ti134, some Tryz.ti135, some Tryz.ti136, some Tryz.ti137, some Tryz.ti138, some Tryz.ti139, some Tryz.ti140, some Tryz.ti141, some Tryz.ti142, some Tryz.ti143, some Tryz.ti144, some Tryz.ti145, some Tryz.ti146, none, some Tryz.ti148, some Tryz.ti149, some Tryz.ti150, some Tryz.ti151, none, none, none, some Tryz.ti155, some Tryz.ti156, some Tryz.ti157, some Tryz.ti158, some Tryz.ti159, some Tryz.ti160, some Tryz.ti161, some Tryz.ti162, some Tryz.ti163, some Tryz.ti164, some Tryz.ti165, none, some Tryz.ti167, some Tryz.ti168, none, some Tryz.ti170, some Tryz.ti171, some Tryz.ti172, some Tryz.ti173, some Tryz.ti174, some Tryz.ti175, some Tryz.ti176, some Tryz.ti177, some Tryz.ti178, some Tryz.ti179, none, some Tryz.ti181, some Tryz.ti182, none, some Tryz.ti184, some Tryz.ti185, some Tryz.ti186, some Tryz.ti187, some Tryz.ti188, some Tryz.ti189, some Tryz.ti190, some Tryz.ti191, none, some Tryz.ti193, some Tryz.ti194, some Tryz.ti195, some Tryz.ti196, some Tryz.ti197, none, some Tryz.ti199, some Tryz.ti200, some Tryz.ti201, some Tryz.ti202, some Tryz.ti203, some Tryz.ti204, some Tryz.ti205, some Tryz.ti206, some Tryz.ti207, some Tryz.ti208, some Tryz.ti209, some Tryz.ti210, some Tryz.ti211, some Tryz.ti212, some Tryz.ti213, none, some Tryz.ti215, some Tryz.ti216, none, some Tryz.ti218, some Tryz.ti219, some Tryz.ti220, some Tryz.ti221, some Tryz.ti222, some Tryz.ti223, some Tryz.ti224, some Tryz.ti225, some Tryz.ti226, some Tryz.ti227, some Tryz.ti228, some Tryz.ti229, some Tryz.ti230, some Tryz.ti231, some Tryz.ti232, some Tryz.ti233, some Tryz.ti234, some Tryz.ti235, some Tryz.ti236, some Tryz.ti237, some Tryz.ti238]
theorem Tryz.tisOk : ((List.range Tryz.tis.length).all fun t => match Tryz.tis[t]? with | some (some i) => tiOkB Tryz.prog t i | _ => true) = true := by kernel_rfl
def Tryz.gos : List Nat := [3, 4, 5, 6, 7, 8, 9, 10, 11, 12, 13, 14, 15, 16, 17, 18, 19, 20, 21, 22, 23, 24, 25, 26, 27, 28, 29, 30, 31, 32, 33, 34, 35, 36, 37, 38, 39, 40, 41, 42, 43, 44, 45, 46, 47, 48, 49, 50, 51, 52, 53, 54, 55, 56, 57, 58, 59, 60, 61, 65, 66, 67, 68, 69, 70, 71, 72, 73, 74, 75, 76, 77, 78, 79, 80, 81, 82, 83, 84, 85, 86, 87, 94, 95, 96, 97, 98, 99, 100, 101, 102, 103, 105, 106, 107, 108, 109, 110, 111, 112, 115, 116, 118, 119, 120, 122, 123, 124, 125, 126, 127, 130, 131, 132, 133, 134, 135, 136, 137, 138, 139, 140, 141, 142, 143, 144, 145]
theorem Tryz.gosOk : Tryz.gos.all (goFnB Tryz.prog) = true := by kernel_rfl
def Tryz.xk (f : Nat) : FK := bif f == 104 then FK.add64 else bif f == 121 then FK.sub64 else FK.go
theorem Tryz.addOk : ∀ f, Tryz.xk f = .add64 → IsExt Tryz.prog f add64Entry := by
 intro f h
 by_cases e104 : f = 104
 ·subst e104; exact fun args w => run_callFunc_extern Tryz.func104 (by kernel_rfl) (by kernel_rfl) (by kernel_rfl) (by kernel_rfl) args w
 by_cases e121 : f = 121
 ·subst e121; exact absurd h (by decide)
 have : Tryz.xk f = .go := by
  unfold Tryz.xk
  rw [show (f == 104) = false by simpa using e104]
  rw [show (f == 121) = false by simpa using e121]
  rfl
 rw [this] at h; exact absurd h (by decide)
theorem Tryz.subOk : ∀ f, Tryz.xk f = .sub64 → IsExt Tryz.prog f sub64Entry := by
 intro f h
 by_cases e104 : f = 104
 ·subst e104; exact absurd h (by decide)
 by_cases e121 : f = 121
 ·subst e121; exact fun args w => run_callFunc_extern Tryz.func121 (by kernel_rfl) (by kernel_rfl) (by kernel_rfl) (by kernel_rfl) args w
 have : Tryz.xk f = .go := by
  unfold Tryz.xk
  rw [show (f == 104) = false by simpa using e104]
  rw [show (f == 121) = false by simpa using e121]
  rfl
 rw [this] at h; exact absurd h (by decide)
def Tryz.gl (g : Nat) : Option (List AV) := bif g == 3 then some [.w64 4 [18446744073709551597, 18446744073709551615, 18446744073709551615, 9223372036854775807]] else bif g == 2 then some [.w32 8 Go.Bla.iv] else bif g == 4 then some [.n64 160 Go.Bla.ordersL] else bif g == 0 then some [.str [78, 78], .str [78, 75], .str [88, 88], .str [73, 75], .str [88, 75], .str [75, 75]] else bif g == 1 then some [.any] else none
noncomputable def Tryz.E : Env Tryz.prog where
 ty := fun t => oget Tryz.tis t
 g := Tryz.gl
 x := Tryz.xk
 go := fun f => Tryz.gos.contains f
 tyOk := fun t i h => tyOk_of Tryz.tisOk t i ((oget_eq _ _).symm.trans h)
 addOk := Tryz.addOk
 subOk := Tryz.subOk
 goOk := fun f h => goFn_of (List.all_eq_true.1 Tryz.gosOk f (by simpa using h))
 follows := by kernel_rfl
end Go.Proofs
namespace Go.Proofs.YtehaohfglolljaaGreatDoor
open Go Go.V Go.Fld
noncomputable abbrev RR := ROps.nil Tryz.E
noncomputable abbrev CC := (Ctr.nil Tryz.E).C
set_option maxHeartbeats 0
set_option maxRecDepth 100000
theorem less_eq (a0 a1 a2 a3 b0 b1 b2 b3 : UInt64) (K : AV → Heap → Prop) : walk Tryz.E RR CC (fun _ _ => .unroll 6) 3 100 [.w64 4 [a0, a1, a2, a3], .w64 4 [b0, b1, b2, b3]] K = (
 let x0 : List UInt64 := [a0, a1, a2, a3]
 let x1 : UInt64 := (List.getD x0 0 0)
 let x2 : List UInt64 := [b0, b1, b2, b3]
 let x3 : UInt64 := (List.getD x2 0 0)
 let x4 : UInt64 := (borrow64 x1 x3 0)
 let x5 : List UInt64 := (List.set x0 0 ((x1 - x3) - 0))
 let x6 : UInt64 := (List.getD x5 1 0)
 let x7 : UInt64 := (List.getD x2 1 0)
 let x8 : UInt64 := (borrow64 x6 x7 x4)
 let x9 : List UInt64 := (List.set x5 1 ((x6 - x7) - x4))
 let x10 : UInt64 := (List.getD x9 2 0)
 let x11 : UInt64 := (List.getD x2 2 0)
 let x12 : UInt64 := (borrow64 x10 x11 x8)
 let x13 : List UInt64 := (List.set x9 2 ((x10 - x11) - x8))
 let x14 : UInt64 := (List.getD x13 3 0)
 let x15 : UInt64 := (List.getD x2 3 0)
 cnd (bit1 x4)
 (cnd (bit1 x8)
 (cnd (bit1 x12)
 (K (AV.tup [AV.w64 4 (List.set x13 3 ((x14 - x15) - x12)), AV.bool ((((UInt64.toNat (borrow64 x14 x15 x12)) : Nat) : Int) == 1)]) [])))) := by kernel_rfl
theorem fmul64_eq (x y : UInt64) (K : AV → Heap → Prop) : walk Tryz.E RR CC (fun _ _ => .unroll 6) 3 103 [.u64 x, .u64 y] K = (
 let x0 : UInt64 := (y &&& 4294967295)
 let x1 : UInt64 := (x &&& 4294967295)
 let x2 : UInt64 := (((shr64 x 32) * x0) + (shr64 (x1 * x0) 32))
 K (AV.tup [AV.u64 ((((shr64 x 32) * (shr64 y 32)) + (shr64 x2 32)) + (shr64 ((x2 &&& 4294967295) + (x1 * (shr64 y 32))) 32)), AV.u64 (x * y)]) []) := by kernel_rfl
theorem less_c (a b : List UInt64) : HCall Tryz.E 100 [.w64 4 a, .w64 4 b]
  (.ret (.tup [.w64 4 (fes (subT (nv a) (nv b))), .bool (ltN (nv a) (nv b))]) []) := by
 refine HCall.of_len rfl rfl fun hl => ?_
 have ha : a.length = 4 := hl _ (List.mem_cons_self ..)
 have hb : b.length = 4 := hl (.w64 4 b) (by simp)
 rw [eta4 ha, eta4 hb]
 generalize a.getD 0 0 = a0; generalize a.getD 1 0 = a1; generalize a.getD 2 0 = a2; generalize a.getD 3 0 = a3
 generalize b.getD 0 0 = b0; generalize b.getD 1 0 = b1; generalize b.getD 2 0 = b2; generalize b.getD 3 0 = b3
 refine HCall.of_walk (R := RR) (T := Ctr.nil _) (fun _ _ => .unroll 6) 3 rfl rfl ?_
 rw [less_eq]
 simp only [List.getD_cons_zero, List.getD_cons_succ, List.set_cons_zero, List.set_cons_succ, bit1, bit1_carry, bit1_borrow, cnd_true, has_ret, nv_mk, and_true]
 have z : (0 : UInt64).toNat = 0 := rfl
 have p0 := sub_part a0 b0 0 (by decide)
 have p1 := sub_part a1 b1 _ p0.2
 have p2 := sub_part a2 b2 _ p1.2
 have p3 := sub_part a3 b3 _ p2.2
 generalize borrow64 a0 b0 0 = c0 at *
 generalize borrow64 a1 b1 c0 = c1 at *
 generalize borrow64 a2 b2 c1 = c2 at *
 generalize borrow64 a3 b3 c2 = c3 at *
 have k : val (a0 - b0 - 0) (a1 - b1 - c0) (a2 - b2 - c1) (a3 - b3 - c2) + val b0 b1 b2 b3 = val a0 a1 a2 a3 + top * c3.toNat := by
  unfold val top
  omega
 have l := val_lt (a0 - b0 - 0) (a1 - b1 - c0) (a2 - b2 - c1) (a3 - b3 - c2)
 have la := val_lt a0 a1 a2 a3
 have lb := val_lt b0 b1 b2 b3
 rw [← fes_val]
 generalize val (a0 - b0 - 0) (a1 - b1 - c0) (a2 - b2 - c1) (a3 - b3 - c2) = r at *
 generalize val a0 a1 a2 a3 = x at *
 generalize val b0 b1 b2 b3 = y at *
 have c3' : c3.toNat = if x < y then 1 else 0 := by
  have := p3.2
  unfold top at *
  split <;> omega
 rw [c3'] at k ⊢
 rw [ltN_eq, subT]
 by_cases e : x < y
 ·simp only [e, if_true, decide_true] at k ⊢
  rw [show r = x + top - y by unfold top at *; omega]
  rfl
 ·simp only [e, if_false, decide_false] at k ⊢
  rw [show r = x - y by omega]
  rfl
theorem fmul64_c (x y : UInt64) : HCall Tryz.E 103 [.u64 x, .u64 y] (.ret (.tup [.u64 (mulhi x y), .u64 (x * y)]) []) := by
 refine HCall.of_walk (R := RR) (T := Ctr.nil _) (fun _ _ => .unroll 6) 3 rfl rfl ?_
 rw [fmul64_eq]
 simp only [has_ret, and_true]
 rw [mulhi_eq, ← mul64_hi]
noncomputable def TF1 : Ctr Tryz.E := ((Ctr.nil _).add 100 (fun
  | [.w64 4 a, .w64 4 b] => some (true, .ret (.tup [.w64 4 (fes (subT (nv a) (nv b))), .bool (ltN (nv a) (nv b))]) [])
  | _ => none) (by
   intro args pre out h _
   split at h
   ·simp only [Option.some.injEq, Prod.mk.injEq] at h
    obtain ⟨_, rfl⟩ := h
    exact less_c _ _
   ·simp at h)).add 103 (fun
  | [.u64 x, .u64 y] => some (true, .ret (.tup [.u64 (mulhi x y), .u64 (x * y)]) [])
  | _ => none) (by
   intro args pre out h _
   split at h
   ·simp only [Option.some.injEq, Prod.mk.injEq] at h
    obtain ⟨_, rfl⟩ := h
    exact fmul64_c _ _
   ·simp at h)
theorem below_eq (a : List UInt64) (K : AV → Heap → Prop) : walk Tryz.E RR TF1.C (fun _ _ => .unroll 6) 3 74 [.w64 4 a] K = (
 K (AV.bool (Fld.ltN (Fld.nv a) 57896044618658097711785492504343953926634992332820282019728792003956564819949)) []) := by kernel_rfl
theorem plus_eq (a0 a1 a2 a3 n : UInt64) (K : AV → Heap → Prop) : walk Tryz.E RR TF1.C (fun _ l => bif l == 1 then .unroll 3 else .unroll 6) 3 105 [.w64 4 [a0, a1, a2, a3], .u64 n] K = (
 let x0 : List UInt64 := [a0, a1, a2, a3]
 let x1 : UInt64 := (List.getD x0 0 0)
 let x2 : UInt64 := (carry64 x1 n 0)
 let x3 : List UInt64 := (List.set x0 0 ((x1 + n) + 0))
 let x4 : UInt64 := (List.getD x3 1 0)
 let x5 : UInt64 := (carry64 x4 0 x2)
 let x6 : List UInt64 := (List.set x3 1 ((x4 + 0) + x2))
 let x7 : UInt64 := (List.getD x6 2 0)
 let x8 : UInt64 := (carry64 x7 0 x5)
 let x9 : List UInt64 := (List.set x6 2 ((x7 + 0) + x5))
 let x10 : UInt64 := (List.getD x9 3 0)
 let x11 : UInt64 := (38 * (carry64 x10 0 x8))
 let x12 : List UInt64 := (List.set x9 3 ((x10 + 0) + x8))
 let x13 : UInt64 := (List.getD x12 0 0)
 let x14 : UInt64 := (carry64 x13 x11 0)
 let x15 : List UInt64 := (List.set x12 0 ((x13 + x11) + 0))
 let x16 : UInt64 := (List.getD x15 1 0)
 let x17 : UInt64 := (carry64 x16 0 x14)
 let x18 : List UInt64 := (List.set x15 1 ((x16 + 0) + x14))
 let x19 : UInt64 := (List.getD x18 2 0)
 let x20 : UInt64 := (carry64 x19 0 x17)
 let x21 : List UInt64 := (List.set x18 2 ((x19 + 0) + x17))
 let x22 : UInt64 := (List.getD x21 3 0)
 let x23 : UInt64 := (38 * (carry64 x22 0 x20))
 let x24 : List UInt64 := (List.set x21 3 ((x22 + 0) + x20))
 let x25 : UInt64 := (List.getD x24 0 0)
 let x26 : UInt64 := (carry64 x25 x23 0)
 let x27 : List UInt64 := (List.set x24 0 ((x25 + x23) + 0))
 let x28 : UInt64 := (List.getD x27 1 0)
 let x29 : UInt64 := (carry64 x28 0 x26)
 ite2 ((((UInt64.toNat n) : Nat) : Int) != 0)
 (cnd (bit1 x2)
 (cnd (bit1 x5)
 (cnd (bit1 x8)
 (ite2 ((((UInt64.toNat x11) : Nat) : Int) != 0)
 (cnd (bit1 x14)
 (cnd (bit1 x17)
 (cnd (bit1 x20)
 (ite2 ((((UInt64.toNat x23) : Nat) : Int) != 0)
 (cnd (bit1 x26)
 (cnd (bit1 x29)
 (cnd (bit1 (carry64 (List.getD (List.set x27 1 ((x28 + 0) + x26)) 2 0) 0 x29))
 (False))))
 (K (AV.w64 4 x24) [])))))
 (K (AV.w64 4 x12) [])))))
 (K (AV.w64 4 x0) [])) := by kernel_rfl
theorem below_c (a : List UInt64) : HCall Tryz.E 74 [.w64 4 a] (.ret (.bool (ltN (nv a) prm)) []) := by
 refine HCall.of_walk (R := RR) (T := TF1) (fun _ _ => .unroll 6) 3 rfl rfl ?_
 rw [below_eq]
 exact has_refl
theorem plus_round (a0 a1 a2 a3 n : UInt64) : ∃ b, b ≤ 1 ∧ (38 * carry64 (a3) 0 (carry64 a2 0 (carry64 a1 0 (carry64 a0 n 0)))).toNat = 38 * b ∧
  val (a0 + n + 0) (a1 + 0 + carry64 a0 n 0) (a2 + 0 + carry64 a1 0 (carry64 a0 n 0)) (a3 + 0 + carry64 a2 0 (carry64 a1 0 (carry64 a0 n 0))) + top * b = val a0 a1 a2 a3 + n.toNat := by
 obtain ⟨b, hb, hb1, hv⟩ := add_val a0 a1 a2 a3 n 0 0 0 0 (by decide)
 refine ⟨b, hb1, times38 _ hb hb1, ?_⟩
 rw [hv]
 have e : val n 0 0 0 = n.toNat := by simp [val]
 have e0 : (0 : UInt64).toNat = 0 := rfl
 omega
theorem plus_c (a : List UInt64) (n : UInt64) : HCall Tryz.E 105 [.w64 4 a, .u64 n] (.ret (.w64 4 (fes (plusN (nv a) n.toNat))) []) := by
 refine HCall.of_len rfl rfl fun hl => ?_
 have ha : a.length = 4 := hl _ (List.mem_cons_self ..)
 rw [eta4 ha]
 generalize a.getD 0 0 = a0; generalize a.getD 1 0 = a1; generalize a.getD 2 0 = a2; generalize a.getD 3 0 = a3
 refine HCall.of_walk (R := RR) (T := TF1) (fun _ l => bif l == 1 then .unroll 3 else .unroll 6) 3 rfl rfl ?_
 rw [plus_eq]
 simp only [List.getD_cons_zero, List.getD_cons_succ, List.set_cons_zero, List.set_cons_succ, bit1, bit1_carry, bit1_borrow, cnd_true, has_ret, nv_mk, and_true, ite2_eq]
 obtain ⟨b, hb, h38, hv⟩ := plus_round a0 a1 a2 a3 n
 have l0 := val_lt a0 a1 a2 a3
 have ln := lt64 n
 generalize 38 * carry64 a3 0 (carry64 a2 0 (carry64 a1 0 (carry64 a0 n 0))) = m at *
 generalize a0 + n + 0 = r0 at *
 generalize a1 + 0 + carry64 a0 n 0 = r1 at *
 generalize a2 + 0 + carry64 a1 0 (carry64 a0 n 0) = r2 at *
 generalize a3 + 0 + carry64 a2 0 (carry64 a1 0 (carry64 a0 n 0)) = r3 at *
 have l1 := val_lt r0 r1 r2 r3
 obtain ⟨b', hb', h38', hv'⟩ := plus_round r0 r1 r2 r3 m
 generalize 38 * carry64 r3 0 (carry64 r2 0 (carry64 r1 0 (carry64 r0 m 0))) = m' at *
 generalize r0 + m + 0 = s0 at *
 generalize r1 + 0 + carry64 r0 m 0 = s1 at *
 generalize r2 + 0 + carry64 r1 0 (carry64 r0 m 0) = s2 at *
 generalize r3 + 0 + carry64 r2 0 (carry64 r1 0 (carry64 r0 m 0)) = s3 at *
 have l2 := val_lt s0 s1 s2 s3
 rw [← fes_val, ← fes_val, ← fes_val]
 generalize val a0 a1 a2 a3 = x at *
 generalize val r0 r1 r2 r3 = y at *
 generalize val s0 s1 s2 s3 = z at *
 have g : top = 115792089237316195423570985008687907853269984665640564039457584007913129639936 := rfl
 have key : ∀ u : UInt64, (((u.toNat : Nat) : Int) != 0) = true ↔ u.toNat ≠ 0 := by intro u; simp
 have key' : ∀ u : UInt64, (((u.toNat : Nat) : Int) != 0) = false ↔ u.toNat = 0 := by intro u; simp
 simp only [key, key', AV.w64.injEq, true_and]
 unfold plusN
 rw [g] at hv hv' l0 l1 l2 ⊢
 have zb : b = 0 ∨ b = 1 := by omega
 have zb' : b' = 0 ∨ b' = 1 := by omega
 refine ⟨fun h0 => ⟨fun h1 => ⟨fun h2 => ?_, fun h2 => ?_⟩, fun h1 => ?_⟩, fun h0 => ?_⟩
 ·rcases zb with rfl | rfl <;> rcases zb' with rfl | rfl <;> omega
 ·rcases zb with rfl | rfl <;> rcases zb' with rfl | rfl <;> try omega
  rw [if_neg (by omega), show z = x + n.toNat - 115792089237316195423570985008687907853269984665640564039457584007913129639936 + 38 by omega]
 ·rcases zb with rfl | rfl <;> try omega
  rw [if_pos (by omega), show y = x + n.toNat by omega]
 ·rw [if_pos (by omega), show x + n.toNat = x by omega]
noncomputable def TF2 : Ctr Tryz.E := (TF1.add 74 (fun
  | [.w64 4 a] => some (true, .ret (.bool (ltN (nv a) prm)) [])
  | _ => none) (by
   intro args pre out h _
   split at h
   ·simp only [Option.some.injEq, Prod.mk.injEq] at h
    obtain ⟨_, rfl⟩ := h
    exact below_c _
   ·simp at h)).add 105 (fun
  | [.w64 4 a, .u64 n] => some (true, .ret (.w64 4 (fes (plusN (nv a) n.toNat))) [])
  | _ => none) (by
   intro args pre out h _
   split at h
   ·simp only [Option.some.injEq, Prod.mk.injEq] at h
    obtain ⟨_, rfl⟩ := h
    exact plus_c _ _
   ·simp at h)
theorem settled_eq (a : List UInt64) (K : AV → Heap → Prop) : walk Tryz.E RR TF2.C (fun _ _ => .unroll 3) 3 70 [.w64 4 a] K = (
 let x0 : Nat := 57896044618658097711785492504343953926634992332820282019728792003956564819949
 let x1 : List UInt64 := (Fld.fes (Fld.subT (Fld.nv a) x0))
 let x2 : List UInt64 := (Fld.fes (Fld.subT (Fld.nv x1) x0))
 ite2 (Bool.not (Fld.ltN (Fld.nv a) x0))
 (ite2 (Bool.not (Fld.ltN (Fld.nv x1) x0))
 (ite2 (Bool.not (Fld.ltN (Fld.nv x2) x0))
 (False)
 (K (AV.w64 4 x2) []))
 (K (AV.w64 4 x1) []))
 (K (AV.w64 4 a) [])) := by kernel_rfl
theorem subc_eq (a b : List UInt64) (K : AV → Heap → Prop) : walk Tryz.E RR TF2.C (fun _ _ => .unroll 6) 3 123 [.w64 4 a, .w64 4 b] K = (
 let x0 : List UInt64 := (Fld.fes (Fld.subT (Fld.nv a) (Fld.nv b)))
 let x1 : UInt64 := (List.getD x0 0 0)
 let x2 : UInt64 := 18446744073709551597
 let x3 : UInt64 := (carry64 x1 x2 0)
 let x4 : List UInt64 := (List.set x0 0 ((x1 + x2) + 0))
 let x5 : UInt64 := (List.getD x4 1 0)
 let x6 : UInt64 := 18446744073709551615
 let x7 : UInt64 := (carry64 x5 x6 x3)
 let x8 : List UInt64 := (List.set x4 1 ((x5 + x6) + x3))
 let x9 : UInt64 := (List.getD x8 2 0)
 let x10 : UInt64 := (carry64 x9 x6 x7)
 let x11 : List UInt64 := (List.set x8 2 ((x9 + x6) + x7))
 ite2 (Fld.ltN (Fld.nv a) (Fld.nv b))
 (cnd (bit1 x3)
 (cnd (bit1 x7)
 (cnd (bit1 x10)
 (K (AV.w64 4 (List.set x11 3 (((List.getD x11 3 0) + 9223372036854775807) + x10))) []))))
 (K (AV.w64 4 x0) [])) := by kernel_rfl
theorem settled_c (a : List UInt64) : HCall Tryz.E 70 [.w64 4 a] (.ret (.w64 4 (fes (nv a % prm))) []) := by
 refine HCall.of_len rfl rfl fun hl => ?_
 have ha : a.length = 4 := hl _ (List.mem_cons_self ..)
 refine HCall.of_walk (R := RR) (T := TF2) (fun _ _ => .unroll 3) 3 rfl rfl ?_
 rw [settled_eq]
 have hp : (57896044618658097711785492504343953926634992332820282019728792003956564819949 : Nat) = prm := rfl
 simp only [hp, ite2_eq, has_ret, ltN_eq, and_true, AV.w64.injEq, true_and, Bool.not_eq_true', Bool.not_eq_false', decide_eq_true_eq, decide_eq_false_iff_not]
 have l := nv_lt a
 have e := fes_nv ha
 generalize nv a = x at *
 have ep := top_prm
 have e2 : 38 < prm := by decide
 refine ⟨fun h1 => ?_, fun h1 => by rw [Nat.mod_eq_of_lt h1, e]⟩
 have s1 : subT x prm = x - prm := by unfold subT; rw [if_neg h1]
 have l1 : x - prm < top := by omega
 rw [s1, nv_fes l1]
 refine ⟨fun h2 => ?_, fun h2 => by rw [set_mod h1 h2]⟩
 have s2 : subT (x - prm) prm = x - prm - prm := by unfold subT; rw [if_neg h2]
 rw [s2, nv_fes (by omega)]
 refine ⟨fun h3 => absurd (set_two l) h3, fun h3 => by rw [set_mod2 l h1 h2]⟩
theorem sub_c (a b : List UInt64) (ha : nv a < prm) (hb : nv b < prm) : HCall Tryz.E 123 [.w64 4 a, .w64 4 b] (.ret (.w64 4 (fes ((nv a + prm - nv b) % prm))) []) := by
 refine HCall.of_walk (R := RR) (T := TF2) (fun _ _ => .unroll 6) 3 rfl rfl ?_
 rw [subc_eq]
 simp only [ite2_eq, ltN_eq, decide_eq_true_eq, decide_eq_false_iff_not]
 have ep := top_prm
 generalize nv a = x at *
 generalize nv b = y at *
 refine ⟨fun h => ?_, fun h => ?_⟩
 ·have s : subT x y = x + top - y := by unfold subT; rw [if_pos h]
  obtain ⟨d0, d1, d2, d3, hd⟩ := val_ex (n := x + top - y) (by omega)
  rw [s, hd, fes_val]
  simp only [List.getD_cons_zero, List.getD_cons_succ, List.set_cons_zero, List.set_cons_succ, bit1, bit1_carry, bit1_borrow, cnd_true, has_ret, and_true, AV.w64.injEq, true_and]
  obtain ⟨c, hc, hc1, hv⟩ := add_val d0 d1 d2 d3 18446744073709551597 18446744073709551615 18446744073709551615 9223372036854775807 0 (by decide)
  have e : val 18446744073709551597 18446744073709551615 18446744073709551615 9223372036854775807 = prm := by decide
  rw [e, ← hd] at hv
  have ll := val_lt (d0 + 18446744073709551597 + 0) (d1 + 18446744073709551615 + carry64 d0 18446744073709551597 0) (d2 + 18446744073709551615 + carry64 d1 18446744073709551615 (carry64 d0 18446744073709551597 0)) (d3 + 9223372036854775807 + carry64 d2 18446744073709551615 (carry64 d1 18446744073709551615 (carry64 d0 18446744073709551597 0)))
  rw [← fes_val, Nat.mod_eq_of_lt (by omega)]
  generalize val (d0 + 18446744073709551597 + 0) _ _ _ = r at *
  have z0 : (0 : UInt64).toNat = 0 := rfl
  have z : c = 0 ∨ c = 1 := by omega
  rcases z with rfl | rfl
  ·omega
  ·rw [show r = x + prm - y by omega]
 ·have s : subT x y = x - y := by unfold subT; rw [if_neg h]
  rw [s, show x + prm - y = (x - y) + prm by omega, Nat.add_mod_right, Nat.mod_eq_of_lt (by omega)]
  exact has_refl
noncomputable def TF3 : Ctr Tryz.E := (TF2.add 70 (fun
  | [.w64 4 a] => some (true, .ret (.w64 4 (fes (nv a % prm))) [])
  | _ => none) (by
   intro args pre out h _
   split at h
   ·simp only [Option.some.injEq, Prod.mk.injEq] at h
    obtain ⟨_, rfl⟩ := h
    exact settled_c _
   ·simp at h)).add 123 (fun
  | [.w64 4 a, .w64 4 b] => some (ltN (nv a) prm && ltN (nv b) prm, .ret (.w64 4 (fes ((nv a + prm - nv b) % prm))) [])
  | _ => none) (by
   intro args pre out h hp
   split at h
   ·simp only [Option.some.injEq, Prod.mk.injEq] at h
    obtain ⟨rfl, rfl⟩ := h
    simp only [Bool.and_eq_true, ltN_eq, decide_eq_true_eq] at hp
    exact sub_c _ _ hp.1 hp.2
   ·simp at h)
theorem fadd_eq (a0 a1 a2 a3 b0 b1 b2 b3 : UInt64) (K : AV → Heap → Prop) : walk Tryz.E RR TF3.C (fun _ _ => .unroll 6) 3 122 [.w64 4 [a0, a1, a2, a3], .w64 4 [b0, b1, b2, b3]] K = (
 let x0 : List UInt64 := [a0, a1, a2, a3]
 let x1 : UInt64 := (List.getD x0 0 0)
 let x2 : List UInt64 := [b0, b1, b2, b3]
 let x3 : UInt64 := (List.getD x2 0 0)
 let x4 : UInt64 := (carry64 x1 x3 0)
 let x5 : List UInt64 := (List.set x0 0 ((x1 + x3) + 0))
 let x6 : UInt64 := (List.getD x5 1 0)
 let x7 : UInt64 := (List.getD x2 1 0)
 let x8 : UInt64 := (carry64 x6 x7 x4)
 let x9 : List UInt64 := (List.set x5 1 ((x6 + x7) + x4))
 let x10 : UInt64 := (List.getD x9 2 0)
 let x11 : UInt64 := (List.getD x2 2 0)
 let x12 : UInt64 := (carry64 x10 x11 x8)
 let x13 : List UInt64 := (List.set x9 2 ((x10 + x11) + x8))
 let x14 : UInt64 := (List.getD x13 3 0)
 let x15 : UInt64 := (List.getD x2 3 0)
 cnd (bit1 x4)
 (cnd (bit1 x8)
 (cnd (bit1 x12)
 (K (AV.w64 4 (Fld.fes ((Fld.nv (Fld.fes (Fld.plusN (Fld.nv (List.set x13 3 ((x14 + x15) + x12))) (UInt64.toNat (38 * (carry64 x14 x15 x12)))))) % 57896044618658097711785492504343953926634992332820282019728792003956564819949))) [])))) := by kernel_rfl
theorem fadd_c (a b : List UInt64) : HCall Tryz.E 122 [.w64 4 a, .w64 4 b] (.ret (.w64 4 (fes ((nv a + nv b) % prm))) []) := by
 refine HCall.of_len rfl rfl fun hl => ?_
 have ha : a.length = 4 := hl _ (List.mem_cons_self ..)
 have hb : b.length = 4 := hl (.w64 4 b) (by simp)
 rw [eta4 ha, eta4 hb]
 generalize a.getD 0 0 = a0; generalize a.getD 1 0 = a1; generalize a.getD 2 0 = a2; generalize a.getD 3 0 = a3
 generalize b.getD 0 0 = b0; generalize b.getD 1 0 = b1; generalize b.getD 2 0 = b2; generalize b.getD 3 0 = b3
 refine HCall.of_walk (R := RR) (T := TF3) (fun _ _ => .unroll 6) 3 rfl rfl ?_
 rw [fadd_eq]
 simp only [List.getD_cons_zero, List.getD_cons_succ, List.set_cons_zero, List.set_cons_succ, bit1, bit1_carry, bit1_borrow, cnd_true, has_ret, and_true, AV.w64.injEq, true_and, nv_mk]
 obtain ⟨k, hk, hk1, hv⟩ := add_val a0 a1 a2 a3 b0 b1 b2 b3 0 (by decide)
 rw [times38 _ hk hk1]
 have z : (0 : UInt64).toNat = 0 := rfl
 have l := val_lt (a0 + b0 + 0) (a1 + b1 + carry64 a0 b0 0) (a2 + b2 + carry64 a1 b1 (carry64 a0 b0 0)) (a3 + b3 + carry64 a2 b2 (carry64 a1 b1 (carry64 a0 b0 0)))
 generalize val (a0 + b0 + 0) _ _ _ = r at *
 have hp : (57896044618658097711785492504343953926634992332820282019728792003956564819949 : Nat) = prm := rfl
 rw [hp, nv_fes (plus_lt l (by omega)), plus_mod, mod38, show r + top * k = val a0 a1 a2 a3 + val b0 b1 b2 b3 by omega]
theorem mul_walk (a0 a1 a2 a3 b0 b1 b2 b3 : UInt64) (K : AV → Heap → Prop) : walk Tryz.E RR TF3.C (fun _ _ => .unroll 6) 3 75 [.w64 4 [a0, a1, a2, a3], .w64 4 [b0, b1, b2, b3]] K =
  K (.w64 4 (fes (nv (fes (plusN (nv (mulSpec a0 a1 a2 a3 b0 b1 b2 b3).1) (mulSpec a0 a1 a2 a3 b0 b1 b2 b3).2.toNat)) % prm))) [] := by kernel_rfl
theorem mul_c (a b : List UInt64) : HCall Tryz.E 75 [.w64 4 a, .w64 4 b] (.ret (.w64 4 (fes (nv a * nv b % prm))) []) := by
 refine HCall.of_len rfl rfl fun hl => ?_
 have ha : a.length = 4 := hl _ (List.mem_cons_self ..)
 have hb : b.length = 4 := hl (.w64 4 b) (by simp)
 rw [eta4 ha, eta4 hb]
 generalize a.getD 0 0 = a0; generalize a.getD 1 0 = a1; generalize a.getD 2 0 = a2; generalize a.getD 3 0 = a3
 generalize b.getD 0 0 = b0; generalize b.getD 1 0 = b1; generalize b.getD 2 0 = b2; generalize b.getD 3 0 = b3
 refine HCall.of_walk (R := RR) (T := TF3) (fun _ _ => .unroll 6) 3 rfl rfl ?_
 rw [mul_walk]
 refine has_ret.2 ⟨?_, rfl⟩
 obtain ⟨k1, k2⟩ := mulSpec_ok a0 a1 a2 a3 b0 b1 b2 b3
 have l := nv_lt (mulSpec a0 a1 a2 a3 b0 b1 b2 b3).1
 rw [nv_fes (plus_lt l (by omega)), plus_mod, k2, nv_mk, nv_mk]
noncomputable def TF4 : Ctr Tryz.E := (TF3.add 122 (fun
  | [.w64 4 a, .w64 4 b] => some (true, .ret (.w64 4 (fes ((nv a + nv b) % prm))) [])
  | _ => none) (by
   intro args pre out h hp
   split at h
   ·simp only [Option.some.injEq, Prod.mk.injEq] at h
    obtain ⟨rfl, rfl⟩ := h
    exact fadd_c _ _
   ·simp at h)).add 75 (fun
  | [.w64 4 a, .w64 4 b] => some (true, .ret (.w64 4 (fes (nv a * nv b % prm))) [])
  | _ => none) (by
   intro args pre out h hp
   split at h
   ·simp only [Option.some.injEq, Prod.mk.injEq] at h
    obtain ⟨rfl, rfl⟩ := h
    exact mul_c _ _
   ·simp at h)
theorem Add_w (a b : List UInt64) (K : AV → Heap → Prop) : walk Tryz.E RR TF4.C (fun _ _ => .unroll 6) 3 101 [.w64 4 a, .w64 4 b] K =
  ite2 (!ltN (nv a) prm) (K (.tup [.w64 4 [0, 0, 0, 0], .int .i64 6]) []) (ite2 (!ltN (nv b) prm) (K (.tup [.w64 4 [0, 0, 0, 0], .int .i64 6]) []) (K (.tup [.w64 4 (fes ((nv a + nv b) % prm)), .int .i64 0]) [])) := by kernel_rfl
theorem Add_c (a b : List UInt64) (ha : nv a < prm) (hb : nv b < prm) : HCall Tryz.E 101 [.w64 4 a, .w64 4 b] (.ret (.tup [.w64 4 (fes ((nv a + nv b) % prm)), .int .i64 0]) []) := by
 refine HCall.of_walk (R := RR) (T := TF4) (fun _ _ => .unroll 6) 3 rfl rfl ?_
 rw [Add_w, ltN_eq, ltN_eq, decide_eq_true ha, decide_eq_true hb]
 exact ⟨rfl, rfl⟩
theorem Mul_w (a b : List UInt64) (K : AV → Heap → Prop) : walk Tryz.E RR TF4.C (fun _ _ => .unroll 6) 3 76 [.w64 4 a, .w64 4 b] K =
  ite2 (!ltN (nv a) prm) (K (.tup [.w64 4 [0, 0, 0, 0], .int .i64 6]) []) (ite2 (!ltN (nv b) prm) (K (.tup [.w64 4 [0, 0, 0, 0], .int .i64 6]) []) (K (.tup [.w64 4 (fes (nv a * nv b % prm)), .int .i64 0]) [])) := by kernel_rfl
theorem Mul_c (a b : List UInt64) (ha : nv a < prm) (hb : nv b < prm) : HCall Tryz.E 76 [.w64 4 a, .w64 4 b] (.ret (.tup [.w64 4 (fes (nv a * nv b % prm)), .int .i64 0]) []) := by
 refine HCall.of_walk (R := RR) (T := TF4) (fun _ _ => .unroll 6) 3 rfl rfl ?_
 rw [Mul_w, ltN_eq, ltN_eq, decide_eq_true ha, decide_eq_true hb]
 exact ⟨rfl, rfl⟩
theorem Sub_w (a b : List UInt64) (K : AV → Heap → Prop) : walk Tryz.E RR TF4.C (fun _ _ => .unroll 6) 3 102 [.w64 4 a, .w64 4 b] K =
  ite2 (!ltN (nv a) prm) (K (.tup [.w64 4 [0, 0, 0, 0], .int .i64 6]) []) (ite2 (!ltN (nv b) prm) (K (.tup [.w64 4 [0, 0, 0, 0], .int .i64 6]) []) (cnd (ltN (nv a) prm && ltN (nv b) prm) (K (.tup [.w64 4 (fes ((nv a + prm - nv b) % prm)), .int .i64 0]) []))) := by kernel_rfl
theorem Sub_c (a b : List UInt64) (ha : nv a < prm) (hb : nv b < prm) : HCall Tryz.E 102 [.w64 4 a, .w64 4 b] (.ret (.tup [.w64 4 (fes ((nv a + prm - nv b) % prm)), .int .i64 0]) []) := by
 refine HCall.of_walk (R := RR) (T := TF4) (fun _ _ => .unroll 6) 3 rfl rfl ?_
 rw [Sub_w, ltN_eq, ltN_eq, decide_eq_true ha, decide_eq_true hb]
 exact ⟨rfl, rfl⟩
theorem Inv_w (a : List UInt64) (K : AV → Heap → Prop) : walk Tryz.E RR TF4.C (fun _ _ => .unroll 257) 3 47 [.w64 4 a] K =
  ite2 (!ltN (nv a) prm) (K (.tup [.w64 4 [0, 0, 0, 0], .int .i64 6]) []) (K (.tup [.w64 4 (invS a 255 [1, 0, 0, 0]), .int .i64 0]) []) := by kernel_rfl
theorem Inv_c (a : List UInt64) (ha : nv a < prm) : HCall Tryz.E 47 [.w64 4 a] (.ret (.tup [.w64 4 (fes (nv a ^ (prm - 2) % prm)), .int .i64 0]) []) := by
 refine HCall.of_walk (R := RR) (T := TF4) (fun _ _ => .unroll 257) 3 rfl rfl ?_
 rw [Inv_w, ltN_eq, decide_eq_true ha, invS_eq 255 _ (Nat.le_refl _) (by
  rw [show (prm - 2) / 2 ^ 255 = 0 by decide, Nat.pow_zero, fes_eq]; rfl)]
 exact ⟨rfl, rfl⟩
theorem From_w (b : List UInt8) (K : AV → Heap → Prop) : walk Tryz.E RR TF4.C (fun _ _ => .unroll 33) 3 44 [.b8 32 b] K =
  K (.w64 4 (fes (nv [(orB (orB (orB (orB (orB (orB (orB (orB 0 (b.getD 0 0) 0) (b.getD 1 0) 8) (b.getD 2 0) 16) (b.getD 3 0) 24) (b.getD 4 0) 32) (b.getD 5 0) 40) (b.getD 6 0) 48) (b.getD 7 0) 56), (orB (orB (orB (orB (orB (orB (orB (orB 0 (b.getD 8 0) 0) (b.getD 9 0) 8) (b.getD 10 0) 16) (b.getD 11 0) 24) (b.getD 12 0) 32) (b.getD 13 0) 40) (b.getD 14 0) 48) (b.getD 15 0) 56), (orB (orB (orB (orB (orB (orB (orB (orB 0 (b.getD 16 0) 0) (b.getD 17 0) 8) (b.getD 18 0) 16) (b.getD 19 0) 24) (b.getD 20 0) 32) (b.getD 21 0) 40) (b.getD 22 0) 48) (b.getD 23 0) 56), ((orB (orB (orB (orB (orB (orB (orB (orB 0 (b.getD 24 0) 0) (b.getD 25 0) 8) (b.getD 26 0) 16) (b.getD 27 0) 24) (b.getD 28 0) 32) (b.getD 29 0) 40) (b.getD 30 0) 48) (b.getD 31 0) 56) &&& 9223372036854775807)] % prm))) [] := by kernel_rfl
theorem From_c (b : List UInt8) : HCall Tryz.E 44 [.b8 32 b] (.ret (.w64 4 (fes (fromN b))) []) := by
 refine HCall.of_len rfl rfl fun hl => ?_
 have hb : b.length = 32 := hl _ (List.mem_cons_self ..)
 refine HCall.of_walk (R := RR) (T := TF4) (fun _ _ => .unroll 33) 3 rfl rfl ?_
 rw [From_w, nv_mk, from_law hb]
 exact ⟨rfl, rfl⟩
theorem Bytes_w (a0 a1 a2 a3 : UInt64) (K : AV → Heap → Prop) : walk Tryz.E RR TF4.C (fun _ _ => .unroll 33) 3 48 [.w64 4 [a0, a1, a2, a3]] K =
  ite2 (!ltN (nv [a0, a1, a2, a3]) prm) (K (.tup [.b8 32 (List.replicate 32 0), .int .i64 6]) []) (K (.tup [.b8 32 [(shr64 a0 0).toUInt8, (shr64 a0 8).toUInt8, (shr64 a0 16).toUInt8, (shr64 a0 24).toUInt8, (shr64 a0 32).toUInt8, (shr64 a0 40).toUInt8, (shr64 a0 48).toUInt8, (shr64 a0 56).toUInt8, (shr64 a1 0).toUInt8, (shr64 a1 8).toUInt8, (shr64 a1 16).toUInt8, (shr64 a1 24).toUInt8, (shr64 a1 32).toUInt8, (shr64 a1 40).toUInt8, (shr64 a1 48).toUInt8, (shr64 a1 56).toUInt8, (shr64 a2 0).toUInt8, (shr64 a2 8).toUInt8, (shr64 a2 16).toUInt8, (shr64 a2 24).toUInt8, (shr64 a2 32).toUInt8, (shr64 a2 40).toUInt8, (shr64 a2 48).toUInt8, (shr64 a2 56).toUInt8, (shr64 a3 0).toUInt8, (shr64 a3 8).toUInt8, (shr64 a3 16).toUInt8, (shr64 a3 24).toUInt8, (shr64 a3 32).toUInt8, (shr64 a3 40).toUInt8, (shr64 a3 48).toUInt8, (shr64 a3 56).toUInt8], .int .i64 0]) []) := by kernel_rfl
theorem Bytes_c (a : List UInt64) (ha : nv a < prm) : HCall Tryz.E 48 [.w64 4 a] (.ret (.tup [.b8 32 (bytesS (nv a)), .int .i64 0]) []) := by
 refine HCall.of_len rfl rfl fun hl => ?_
 have hl4 : a.length = 4 := hl _ (List.mem_cons_self ..)
 rw [eta4 hl4] at ha ⊢
 generalize a.getD 0 0 = a0 at *; generalize a.getD 1 0 = a1 at *; generalize a.getD 2 0 = a2 at *; generalize a.getD 3 0 = a3 at *
 refine HCall.of_walk (R := RR) (T := TF4) (fun _ _ => .unroll 33) 3 rfl rfl ?_
 rw [Bytes_w, ltN_eq, decide_eq_true ha, ← bytes_law, nv_mk, bytesS_eq]
 exact ⟨rfl, rfl⟩
noncomputable def T5 : Ctr Tryz.E := ((((((TF4.add 101 (fun
  | [.w64 4 a, .w64 4 b] => some (ltN (nv a) prm && ltN (nv b) prm, .ret (.tup [.w64 4 (fes ((nv a + nv b) % prm)), .int .i64 0]) [])
  | _ => none) (by
   intro args pre out h hp
   split at h
   ·simp only [Option.some.injEq, Prod.mk.injEq] at h
    obtain ⟨rfl, rfl⟩ := h
    simp only [Bool.and_eq_true, ltN_eq, decide_eq_true_eq] at hp
    exact Add_c _ _ hp.1 hp.2
   ·simp at h)).add 76 (fun
  | [.w64 4 a, .w64 4 b] => some (ltN (nv a) prm && ltN (nv b) prm, .ret (.tup [.w64 4 (fes (nv a * nv b % prm)), .int .i64 0]) [])
  | _ => none) (by
   intro args pre out h hp
   split at h
   ·simp only [Option.some.injEq, Prod.mk.injEq] at h
    obtain ⟨rfl, rfl⟩ := h
    simp only [Bool.and_eq_true, ltN_eq, decide_eq_true_eq] at hp
    exact Mul_c _ _ hp.1 hp.2
   ·simp at h)).add 102 (fun
  | [.w64 4 a, .w64 4 b] => some (ltN (nv a) prm && ltN (nv b) prm, .ret (.tup [.w64 4 (fes ((nv a + prm - nv b) % prm)), .int .i64 0]) [])
  | _ => none) (by
   intro args pre out h hp
   split at h
   ·simp only [Option.some.injEq, Prod.mk.injEq] at h
    obtain ⟨rfl, rfl⟩ := h
    simp only [Bool.and_eq_true, ltN_eq, decide_eq_true_eq] at hp
    exact Sub_c _ _ hp.1 hp.2
   ·simp at h)).add 47 (fun
  | [.w64 4 a] => some (ltN (nv a) prm, .ret (.tup [.w64 4 (fes (nv a ^ (prm - 2) % prm)), .int .i64 0]) [])
  | _ => none) (by
   intro args pre out h hp
   split at h
   ·simp only [Option.some.injEq, Prod.mk.injEq] at h
    obtain ⟨rfl, rfl⟩ := h
    simp only [ltN_eq, decide_eq_true_eq] at hp
    exact Inv_c _ hp
   ·simp at h)).add 44 (fun
  | [.b8 32 b] => some (true, .ret (.w64 4 (fes (fromN b))) [])
  | _ => none) (by
   intro args pre out h hp
   split at h
   ·simp only [Option.some.injEq, Prod.mk.injEq] at h
    obtain ⟨rfl, rfl⟩ := h
    exact From_c _
   ·simp at h)).add 48 (fun
  | [.w64 4 a] => some (ltN (nv a) prm, .ret (.tup [.b8 32 (bytesS (nv a)), .int .i64 0]) [])
  | _ => none) (by
   intro args pre out h hp
   split at h
   ·simp only [Option.some.injEq, Prod.mk.injEq] at h
    obtain ⟨rfl, rfl⟩ := h
    simp only [ltN_eq, decide_eq_true_eq] at hp
    exact Bytes_c _ hp
   ·simp at h))
noncomputable abbrev T6 : Ctr Tryz.E := T5
theorem ladd_eq (a b : List UInt64) (K : AV → Heap → Prop) : walk Tryz.E RR T6.C (fun _ _ => .unroll 6) 3 71 [.w64 4 a, .w64 4 b] K = (
 let x0 : Nat := 57896044618658097711785492504343953926634992332820282019728792003956564819949
 cnd ((Fld.ltN (Fld.nv a) x0) && (Fld.ltN (Fld.nv b) x0))
 (K (AV.w64 4 (Fld.fes (((Fld.nv a) + (Fld.nv b)) % x0))) [])) := by kernel_rfl
theorem lsub_eq (a b : List UInt64) (K : AV → Heap → Prop) : walk Tryz.E RR T6.C (fun _ _ => .unroll 6) 3 72 [.w64 4 a, .w64 4 b] K = (
 let x0 : Nat := 57896044618658097711785492504343953926634992332820282019728792003956564819949
 cnd ((Fld.ltN (Fld.nv a) x0) && (Fld.ltN (Fld.nv b) x0))
 (K (AV.w64 4 (Fld.fes ((((Fld.nv a) + x0) - (Fld.nv b)) % x0))) [])) := by kernel_rfl
theorem lmul_eq (a b : List UInt64) (K : AV → Heap → Prop) : walk Tryz.E RR T6.C (fun _ _ => .unroll 6) 3 49 [.w64 4 a, .w64 4 b] K = (
 let x0 : Nat := 57896044618658097711785492504343953926634992332820282019728792003956564819949
 cnd ((Fld.ltN (Fld.nv a) x0) && (Fld.ltN (Fld.nv b) x0))
 (K (AV.w64 4 (Fld.fes (((Fld.nv a) * (Fld.nv b)) % x0))) [])) := by kernel_rfl
theorem lsquare_eq (a : List UInt64) (K : AV → Heap → Prop) : walk Tryz.E RR T6.C (fun _ _ => .unroll 6) 4 73 [.w64 4 a] K = (
 let x0 : Nat := 57896044618658097711785492504343953926634992332820282019728792003956564819949
 let x1 : Bool := (Fld.ltN (Fld.nv a) x0)
 cnd (x1 && x1)
 (K (AV.w64 4 (Fld.fes (((Fld.nv a) * (Fld.nv a)) % x0))) [])) := by kernel_rfl
theorem clamp_eq (k : List UInt8) (K : AV → Heap → Prop) : walk Tryz.E RR T6.C (fun _ _ => .unroll 6) 4 43 [.b8 32 k] K = (
 let x0 : List UInt8 := (List.set k 0 ((List.getD k 0 0) &&& 248))
 K (AV.b8 32 (List.set x0 31 (((List.getD x0 31 0) &&& 127) ||| 64))) []) := by kernel_rfl
theorem hprm : (57896044618658097711785492504343953926634992332820282019728792003956564819949 : Nat) = prm := rfl
theorem HCall.of_agg {P : Program} {G : Env P} {f : FuncId} {a b c d : List UInt64} {r : List AV} {out : Out} (hp : pureL (.agg [.agg [.w64 4 a, .w64 4 b], .agg [.w64 4 c, .w64 4 d]] :: r) = true) (ho : out.okB = true)
  (h : a.length = 4 → b.length = 4 → c.length = 4 → d.length = 4 → HCall G f (.agg [.agg [.w64 4 a, .w64 4 b], .agg [.w64 4 c, .w64 4 d]] :: r) out) : HCall G f (.agg [.agg [.w64 4 a, .w64 4 b], .agg [.w64 4 c, .w64 4 d]] :: r) out := by
 refine ⟨hp, ho, fun ρ I w vs c' rv => ?_⟩
 obtain ⟨x, xs, _, h1, _⟩ := RV_cons.1 rv
 obtain ⟨cs, _, h2⟩ := rel_agg.1 h1
 obtain ⟨y1, z1, _, k1, h3⟩ := RL_cons.1 h2
 obtain ⟨y2, z2, _, k2, h4⟩ := RL_cons.1 h3
 obtain ⟨_, _, _, l1, k1⟩ := RL_cons.1 (show RL ρ I w _ y1 from k1)
 obtain ⟨_, _, _, l2, k1⟩ := RL_cons.1 k1
 obtain ⟨_, _, _, l3, k2⟩ := RL_cons.1 (show RL ρ I w _ y2 from k2)
 obtain ⟨_, _, _, l4, k2⟩ := RL_cons.1 k2
 exact (h l1.2 l2.2 l3.2 l4.2).call ρ I w vs c' rv
theorem ladd_c (a b : List UInt64) (ha : nv a < prm) (hb : nv b < prm) : HCall Tryz.E 71 [.w64 4 a, .w64 4 b] (.ret (.w64 4 (fes (addm (nv a) (nv b)))) []) := by
 refine HCall.of_walk (R := RR) (T := T6) (fun _ _ => .unroll 6) 3 rfl rfl ?_
 rw [ladd_eq]
 simp only [hprm, ltN_eq, decide_eq_true ha, decide_eq_true hb, Bool.and_self, cnd_true]
 exact ⟨rfl, rfl⟩
theorem lsub_c (a b : List UInt64) (ha : nv a < prm) (hb : nv b < prm) : HCall Tryz.E 72 [.w64 4 a, .w64 4 b] (.ret (.w64 4 (fes (subm (nv a) (nv b)))) []) := by
 refine HCall.of_walk (R := RR) (T := T6) (fun _ _ => .unroll 6) 3 rfl rfl ?_
 rw [lsub_eq]
 simp only [hprm, ltN_eq, decide_eq_true ha, decide_eq_true hb, Bool.and_self, cnd_true]
 exact ⟨rfl, rfl⟩
theorem lmul_c (a b : List UInt64) (ha : nv a < prm) (hb : nv b < prm) : HCall Tryz.E 49 [.w64 4 a, .w64 4 b] (.ret (.w64 4 (fes (mulm (nv a) (nv b)))) []) := by
 refine HCall.of_walk (R := RR) (T := T6) (fun _ _ => .unroll 6) 3 rfl rfl ?_
 rw [lmul_eq]
 simp only [hprm, ltN_eq, decide_eq_true ha, decide_eq_true hb, Bool.and_self, cnd_true]
 exact ⟨rfl, rfl⟩
theorem lsquare_c (a : List UInt64) (ha : nv a < prm) : HCall Tryz.E 73 [.w64 4 a] (.ret (.w64 4 (fes (mulm (nv a) (nv a)))) []) := by
 refine HCall.of_walk (R := RR) (T := T6) (fun _ _ => .unroll 6) 4 rfl rfl ?_
 rw [lsquare_eq]
 simp only [hprm, ltN_eq, decide_eq_true ha, Bool.and_self, cnd_true]
 exact ⟨rfl, rfl⟩
theorem clamp_c (k : List UInt8) : HCall Tryz.E 43 [.b8 32 k] (.ret (.b8 32 (clampB k)) []) := by
 refine HCall.of_walk (R := RR) (T := T6) (fun _ _ => .unroll 6) 4 rfl rfl ?_
 rw [clamp_eq]
 refine ⟨?_, rfl⟩
 simp only [clampB, List.getD_eq_getElem?_getD, List.getElem?_set]
 simp
def sw (m a b : UInt64) : UInt64 := a ^^^ ((0 - m) &&& (a ^^^ b))
def sv (m a b : UInt64) : UInt64 := b ^^^ ((0 - m) &&& (a ^^^ b))
theorem swapped_w (a0 a1 a2 a3 b0 b1 b2 b3 c0 c1 c2 c3 d0 d1 d2 d3 m : UInt64) (K : AV → Heap → Prop) : walk Tryz.E RR T6.C (fun _ _ => .unroll 6) 3 45 [.agg [.agg [.w64 4 [a0, a1, a2, a3], .w64 4 [b0, b1, b2, b3]], .agg [.w64 4 [c0, c1, c2, c3], .w64 4 [d0, d1, d2, d3]]], .u64 m] K =
  K (.agg [.agg [.w64 4 [sw m a0 b0, sw m a1 b1, sw m a2 b2, sw m a3 b3], .w64 4 [sv m a0 b0, sv m a1 b1, sv m a2 b2, sv m a3 b3]], .agg [.w64 4 [sw m c0 d0, sw m c1 d1, sw m c2 d2, sw m c3 d3], .w64 4 [sv m c0 d0, sv m c1 d1, sv m c2 d2, sv m c3 d3]]]) [] := by kernel_rfl
theorem sw0 (a b : UInt64) : sw 0 a b = a := by simp [sw]
theorem sv0 (a b : UInt64) : sv 0 a b = b := by simp [sv]
theorem sw1 (a b : UInt64) : sw 1 a b = b := by
 have : (0 : UInt64) - 1 = -1 := by decide
 simp [sw, this, ← UInt64.xor_assoc]
theorem sv1 (a b : UInt64) : sv 1 a b = a := by
 have : (0 : UInt64) - 1 = -1 := by decide
 have h : b ^^^ (a ^^^ b) = a := by rw [UInt64.xor_comm a b, ← UInt64.xor_assoc]; simp
 simp [sv, this, h]
theorem swapped_c (a b c d : List UInt64) (m : UInt64) (hm : m = 0 ∨ m = 1) : HCall Tryz.E 45 [.agg [.agg [.w64 4 a, .w64 4 b], .agg [.w64 4 c, .w64 4 d]], .u64 m]
  (.ret (.agg [.agg [.w64 4 (cond (m == 1) b a), .w64 4 (cond (m == 1) a b)], .agg [.w64 4 (cond (m == 1) d c), .w64 4 (cond (m == 1) c d)]]) []) := by
 refine HCall.of_agg rfl rfl fun ha hb hc hd => ?_
 rw [eta4 ha, eta4 hb, eta4 hc, eta4 hd]
 refine HCall.of_walk (R := RR) (T := T6) (fun _ _ => .unroll 6) 3 rfl rfl ?_
 rw [swapped_w]
 rcases hm with rfl | rfl
 ·simp only [sw0, sv0]; exact ⟨rfl, rfl⟩
 ·simp only [sw1, sv1]; exact ⟨rfl, rfl⟩
noncomputable def T7 : Ctr Tryz.E := (((((T6.add 71 (fun
  | [.w64 4 a, .w64 4 b] => some (ltN (nv a) prm && ltN (nv b) prm, .ret (.w64 4 (fes (addm (nv a) (nv b)))) [])
  | _ => none) (by
   intro args pre out h hp
   split at h
   ·simp only [Option.some.injEq, Prod.mk.injEq] at h
    obtain ⟨rfl, rfl⟩ := h
    simp only [Bool.and_eq_true, ltN_eq, decide_eq_true_eq] at hp
    exact ladd_c _ _ hp.1 hp.2
   ·simp at h)).add 72 (fun
  | [.w64 4 a, .w64 4 b] => some (ltN (nv a) prm && ltN (nv b) prm, .ret (.w64 4 (fes (subm (nv a) (nv b)))) [])
  | _ => none) (by
   intro args pre out h hp
   split at h
   ·simp only [Option.some.injEq, Prod.mk.injEq] at h
    obtain ⟨rfl, rfl⟩ := h
    simp only [Bool.and_eq_true, ltN_eq, decide_eq_true_eq] at hp
    exact lsub_c _ _ hp.1 hp.2
   ·simp at h)).add 49 (fun
  | [.w64 4 a, .w64 4 b] => some (ltN (nv a) prm && ltN (nv b) prm, .ret (.w64 4 (fes (mulm (nv a) (nv b)))) [])
  | _ => none) (by
   intro args pre out h hp
   split at h
   ·simp only [Option.some.injEq, Prod.mk.injEq] at h
    obtain ⟨rfl, rfl⟩ := h
    simp only [Bool.and_eq_true, ltN_eq, decide_eq_true_eq] at hp
    exact lmul_c _ _ hp.1 hp.2
   ·simp at h)).add 73 (fun
  | [.w64 4 a] => some (ltN (nv a) prm, .ret (.w64 4 (fes (mulm (nv a) (nv a)))) [])
  | _ => none) (by
   intro args pre out h hp
   split at h
   ·simp only [Option.some.injEq, Prod.mk.injEq] at h
    obtain ⟨rfl, rfl⟩ := h
    simp only [ltN_eq, decide_eq_true_eq] at hp
    exact lsquare_c _ hp
   ·simp at h)).add 43 (fun
  | [.b8 32 k] => some (true, .ret (.b8 32 (clampB k)) [])
  | _ => none) (by
   intro args pre out h hp
   split at h
   ·simp only [Option.some.injEq, Prod.mk.injEq] at h
    obtain ⟨rfl, rfl⟩ := h
    exact clamp_c _
   ·simp at h)).add 45 (fun
  | [.agg [.agg [.w64 4 a, .w64 4 b], .agg [.w64 4 c, .w64 4 d]], .u64 m] => some (m == 0 || m == 1, .ret (.agg [.agg [.w64 4 (cond (m == 1) b a), .w64 4 (cond (m == 1) a b)], .agg [.w64 4 (cond (m == 1) d c), .w64 4 (cond (m == 1) c d)]]) [])
  | _ => none) (by
   intro args pre out h hp
   split at h
   ·simp only [Option.some.injEq, Prod.mk.injEq] at h
    obtain ⟨rfl, rfl⟩ := h
    simp only [Bool.or_eq_true, beq_iff_eq] at hp
    exact swapped_c _ _ _ _ _ hp
   ·simp at h)
theorem step_eq (p0 p1 q0 q1 u : Nat) (K : AV → Heap → Prop) : walk Tryz.E RR T7.C (fun _ _ => .unroll 6) 5 46 [.agg [.agg [.w64 4 (fes p0), .w64 4 (fes p1)], .agg [.w64 4 (fes q0), .w64 4 (fes q1)]], .w64 4 (fes u)] K = (
 let x0 : Nat := (Fld.nv (Fld.fes p0))
 let x1 : Nat := 57896044618658097711785492504343953926634992332820282019728792003956564819949
 let x2 : Nat := (Fld.nv (Fld.fes q0))
 let x3 : Bool := (Fld.ltN x0 x1) && (Fld.ltN x2 x1)
 let x4 : Nat := (Fld.nv (Fld.fes p1))
 let x5 : Nat := (Fld.nv (Fld.fes q1))
 let x6 : Bool := (Fld.ltN x4 x1) && (Fld.ltN x5 x1)
 let x7 : Nat := (Fld.nv (Fld.fes (Fld.addm x0 x2)))
 let x8 : Bool := Fld.ltN x7 x1
 let x9 : Nat := (Fld.nv (Fld.fes (Fld.subm x0 x2)))
 let x10 : Bool := Fld.ltN x9 x1
 let x11 : Nat := (Fld.nv (Fld.fes (Fld.mulm x7 x7)))
 let x12 : Bool := (Fld.ltN x11 x1)
 let x13 : Nat := (Fld.nv (Fld.fes (Fld.mulm x9 x9)))
 let x14 : Bool := x12 && (Fld.ltN x13 x1)
 let x15 : Nat := (Fld.nv (Fld.fes (Fld.subm x4 x5)))
 let x16 : Nat := (Fld.nv (Fld.fes (Fld.addm x4 x5)))
 let x17 : Nat := (Fld.nv (Fld.fes (Fld.mulm x15 x7)))
 let x18 : Nat := (Fld.nv (Fld.fes (Fld.mulm x16 x9)))
 let x19 : Bool := (Fld.ltN x17 x1) && (Fld.ltN x18 x1)
 let x20 : Nat := (Fld.nv (Fld.fes (Fld.addm x17 x18)))
 let x21 : Nat := (Fld.nv (Fld.fes (Fld.subm x11 x13)))
 let x22 : Bool := (Fld.ltN x21 x1)
 let x23 : Nat := (Fld.nv (Fld.fes (Fld.mulm 121665 x21)))
 let x24 : Nat := (Fld.nv (Fld.fes (Fld.addm x11 x23)))
 let x25 : Nat := (Fld.nv (Fld.fes (Fld.subm x17 x18)))
 let x26 : Nat := (Fld.nv (Fld.fes u))
 let x27 : Nat := (Fld.nv (Fld.fes (Fld.mulm x25 x25)))
 cnd (x3)
 (cnd (x3)
 (cnd (x6)
 (cnd (x6)
 (cnd (x8)
 (cnd (x10)
 (cnd (x14)
 (cnd ((Fld.ltN x15 x1) && x8)
 (cnd ((Fld.ltN x16 x1) && x10)
 (cnd (x14)
 (cnd (x19)
 (cnd (Fld.ltN x20 x1)
 (cnd ((Fld.ltN 121665 x1) && x22)
 (cnd (x12 && (Fld.ltN x23 x1))
 (cnd (x22 && (Fld.ltN x24 x1))
 (cnd (x19)
 (cnd (Fld.ltN x25 x1)
 (cnd ((Fld.ltN x26 x1) && (Fld.ltN x27 x1))
 (K (AV.agg [AV.agg [AV.w64 4 (Fld.fes (Fld.mulm x11 x13)), AV.w64 4 (Fld.fes (Fld.mulm x20 x20))], AV.agg [AV.w64 4 (Fld.fes (Fld.mulm x21 x24)), AV.w64 4 (Fld.fes (Fld.mulm x26 x27))]]) []))))))))))))))))))) := by kernel_rfl
noncomputable def rgA (r : Rg) : AV := .agg [.agg [.w64 4 (fes r.x0), .w64 4 (fes r.x1)], .agg [.w64 4 (fes r.z0), .w64 4 (fes r.z1)]]
theorem nv_addm (a b : Nat) : nv (fes (addm a b)) = addm a b := nv_mod _
theorem nv_subm (a b : Nat) : nv (fes (subm a b)) = subm a b := nv_mod _
theorem nv_mulm (a b : Nat) : nv (fes (mulm a b)) = mulm a b := nv_mod _
theorem ltN_addm (a b : Nat) : ltN (addm a b) prm = true := ltN_mod _
theorem ltN_subm (a b : Nat) : ltN (subm a b) prm = true := ltN_mod _
theorem ltN_mulm (a b : Nat) : ltN (mulm a b) prm = true := ltN_mod _
theorem nv_fesp {a : Nat} (h : a < prm) : nv (fes a) = a := nv_fes (Nat.lt_trans h prm_top)
theorem ltN_p {a : Nat} (h : a < prm) : ltN a prm = true := by rw [ltN_eq]; exact decide_eq_true h
theorem step_c0 (x0 x1 z0 z1 u : Nat) (h0 : x0 < prm) (h1 : x1 < prm) (h2 : z0 < prm) (h3 : z1 < prm) (h4 : u < prm) :
  HCall Tryz.E 46 [.agg [.agg [.w64 4 (fes x0), .w64 4 (fes x1)], .agg [.w64 4 (fes z0), .w64 4 (fes z1)]], .w64 4 (fes u)]
  (.ret (rgA (Rg.step u ⟨x0, x1, z0, z1⟩)) []) := by
 refine HCall.of_walk (R := RR) (T := T7) (fun _ _ => .unroll 6) 5 rfl rfl ?_
 rw [step_eq]
 simp only [hprm, nv_addm, nv_subm, nv_mulm, ltN_addm, ltN_subm, ltN_mulm, nv_fesp h0, nv_fesp h1, nv_fesp h2, nv_fesp h3, nv_fesp h4, ltN_p h0, ltN_p h1, ltN_p h2, ltN_p h3, ltN_p h4, ltN_p (show 121665 < prm by decide), Bool.and_self, cnd_true]
 exact ⟨rfl, rfl⟩
theorem step_c (a b c d u : List UInt64) (h0 : nv a < prm) (h1 : nv b < prm) (h2 : nv c < prm) (h3 : nv d < prm) (h4 : nv u < prm) :
  HCall Tryz.E 46 [.agg [.agg [.w64 4 a, .w64 4 b], .agg [.w64 4 c, .w64 4 d]], .w64 4 u]
  (.ret (rgA (Rg.step (nv u) ⟨nv a, nv b, nv c, nv d⟩)) []) := by
 refine HCall.of_len rfl rfl fun hl => ?_
 refine HCall.of_agg rfl rfl fun ha hb hc hd => ?_
 have hu : u.length = 4 := hl (.w64 4 u) (by simp)
 have := step_c0 _ _ _ _ _ h0 h1 h2 h3 h4
 rw [fes_nv ha, fes_nv hb, fes_nv hc, fes_nv hd, fes_nv hu] at this
 exact this
noncomputable def T8 : Ctr Tryz.E := T7.add 46 (fun
  | [.agg [.agg [.w64 4 a, .w64 4 b], .agg [.w64 4 c, .w64 4 d]], .w64 4 u] => some ((ltN (nv a) prm && ltN (nv b) prm) && (ltN (nv c) prm && ltN (nv d) prm) && ltN (nv u) prm, .ret (rgA (Rg.step (nv u) ⟨nv a, nv b, nv c, nv d⟩)) [])
  | _ => none) (by
   intro args pre out h hp
   split at h
   ·simp only [Option.some.injEq, Prod.mk.injEq] at h
    obtain ⟨rfl, rfl⟩ := h
    simp only [Bool.and_eq_true, ltN_eq, decide_eq_true_eq] at hp
    exact step_c _ _ _ _ _ hp.1.1.1 hp.1.1.2 hp.1.2.1 hp.1.2.2 hp.2
   ·simp at h)
def bitU (b : Bool) : UInt64 := cond b 1 0
noncomputable def multT (k u : List UInt8) (n : Nat) : List AV := [.b8 32 k, .b8 32 u, .ptr 0 0, .ptr 1 0, .ptr 2 0, .bool false, .ptr 3 0, .ptr 4 0, .u64 (bitU (lastB (clampB k) n)), .int .i64 (254 - n)] ++ List.replicate 60 .any
noncomputable def multH (k u : List UInt8) (n : Nat) : Heap := [.blk [.b8 32 (clampB k)] [], .blk [.b8 32 u] [], .blk [.b8 32 [0, 0, 0, 0, 0, 0, 0, 0, 0, 0, 0, 0, 0, 0, 0, 0, 0, 0, 0, 0, 0, 0, 0, 0, 0, 0, 0, 0, 0, 0, 0, 0]] [], .blk [.w64 4 (fes (fromN u))] [], .blk [rgA (lad (clampB k) (fromN u) n)] []]
theorem mult_eq (k u : List UInt8) (K : AV → Heap → Prop) : walk Tryz.E RR T8.C (fun f l => bif f == 22 && l == 6 then .inv Nat (fun n => n ≤ 255) (fun n => 255 - n) (multT k u) (multH k u) else .unroll 6) 5 22 [.b8 32 k, .b8 32 u] K = (
 let x0 : List UInt8 := (Fld.clampB k)
 let x1 : List UInt8 := [0, 0, 0, 0, 0, 0, 0, 0, 0, 0, 0, 0, 0, 0, 0, 0, 0, 0, 0, 0, 0, 0, 0, 0, 0, 0, 0, 0, 0, 0, 0, 0]
 let x2 : Nat := (Fld.fromN u)
 let x3 : Nat := 57896044618658097711785492504343953926634992332820282019728792003956564819949
 let x4 : Nat := (Fld.nv (Fld.fes x2))
(∃ w0 : Nat, (w0 ≤ 255) ∧ ((AV.b8 32 k = AV.b8 32 k) ∧ ((AV.b8 32 u = AV.b8 32 u) ∧ ((AV.bool false = AV.bool false) ∧ ((AV.u64 0 = AV.u64 (bitU (Fld.lastB x0 w0))) ∧ ((AV.int .i64 254 = AV.int .i64 (254 - ((w0 : Nat) : Int))) ∧ ((AV.b8 32 x0 = AV.b8 32 x0) ∧ ((AV.b8 32 u = AV.b8 32 u) ∧ ((AV.b8 32 x1 = AV.b8 32 x1) ∧ ((AV.w64 4 (Fld.fes x2) = AV.w64 4 (Fld.fes x2)) ∧ ((AV.w64 4 (List.set [0, 0, 0, 0] 0 1) = AV.w64 4 (Fld.fes (Fld.Rg.x0 (Fld.lad x0 x2 w0)))) ∧ ((AV.w64 4 (Fld.fes x2) = AV.w64 4 (Fld.fes (Fld.Rg.x1 (Fld.lad x0 x2 w0)))) ∧ ((AV.w64 4 [0, 0, 0, 0] = AV.w64 4 (Fld.fes (Fld.Rg.z0 (Fld.lad x0 x2 w0)))) ∧ ((AV.w64 4 (List.set [0, 0, 0, 0] 0 1) = AV.w64 4 (Fld.fes (Fld.Rg.z1 (Fld.lad x0 x2 w0)))) ∧ True)))))))))))))) ∧ (∀ w1 : Nat, (w1 ≤ 255 → ite2 (Bool.not (ltI (254 - ((w1 : Nat) : Int)) 0))
 (cnd (inB (wr .i64 (Int.tdiv (254 - ((w1 : Nat) : Int)) 8)) 32)
 (cnd (nnB (Int.tmod (254 - ((w1 : Nat) : Int)) 8))
 (cnd ((((bitU (Fld.lastB x0 w1)) ^^^ ((UInt8.toUInt64 (shr8 (List.getD x0 (ofs 0 (wr .i64 (Int.tdiv (254 - ((w1 : Nat) : Int)) 8))) 0) (Int.toNat (Int.tmod (254 - ((w1 : Nat) : Int)) 8)))) &&& 1)) == 0) || (((bitU (Fld.lastB x0 w1)) ^^^ ((UInt8.toUInt64 (shr8 (List.getD x0 (ofs 0 (wr .i64 (Int.tdiv (254 - ((w1 : Nat) : Int)) 8))) 0) (Int.toNat (Int.tmod (254 - ((w1 : Nat) : Int)) 8)))) &&& 1)) == 1))
 (cnd ((((Fld.ltN (Fld.nv (cond (((bitU (Fld.lastB x0 w1)) ^^^ ((UInt8.toUInt64 (shr8 (List.getD x0 (ofs 0 (wr .i64 (Int.tdiv (254 - ((w1 : Nat) : Int)) 8))) 0) (Int.toNat (Int.tmod (254 - ((w1 : Nat) : Int)) 8)))) &&& 1)) == 1) (Fld.fes (Fld.Rg.x1 (Fld.lad x0 x2 w1))) (Fld.fes (Fld.Rg.x0 (Fld.lad x0 x2 w1))))) x3) && (Fld.ltN (Fld.nv (cond (((bitU (Fld.lastB x0 w1)) ^^^ ((UInt8.toUInt64 (shr8 (List.getD x0 (ofs 0 (wr .i64 (Int.tdiv (254 - ((w1 : Nat) : Int)) 8))) 0) (Int.toNat (Int.tmod (254 - ((w1 : Nat) : Int)) 8)))) &&& 1)) == 1) (Fld.fes (Fld.Rg.x0 (Fld.lad x0 x2 w1))) (Fld.fes (Fld.Rg.x1 (Fld.lad x0 x2 w1))))) x3)) && ((Fld.ltN (Fld.nv (cond (((bitU (Fld.lastB x0 w1)) ^^^ ((UInt8.toUInt64 (shr8 (List.getD x0 (ofs 0 (wr .i64 (Int.tdiv (254 - ((w1 : Nat) : Int)) 8))) 0) (Int.toNat (Int.tmod (254 - ((w1 : Nat) : Int)) 8)))) &&& 1)) == 1) (Fld.fes (Fld.Rg.z1 (Fld.lad x0 x2 w1))) (Fld.fes (Fld.Rg.z0 (Fld.lad x0 x2 w1))))) x3) && (Fld.ltN (Fld.nv (cond (((bitU (Fld.lastB x0 w1)) ^^^ ((UInt8.toUInt64 (shr8 (List.getD x0 (ofs 0 (wr .i64 (Int.tdiv (254 - ((w1 : Nat) : Int)) 8))) 0) (Int.toNat (Int.tmod (254 - ((w1 : Nat) : Int)) 8)))) &&& 1)) == 1) (Fld.fes (Fld.Rg.z0 (Fld.lad x0 x2 w1))) (Fld.fes (Fld.Rg.z1 (Fld.lad x0 x2 w1))))) x3))) && (Fld.ltN x4 x3))
 ((∃ w2 : Nat, ((((fun n => 255 - n) w2) < ((fun n => 255 - n) w1)) ∧ (w2 ≤ 255)) ∧ ((AV.b8 32 k = AV.b8 32 k) ∧ ((AV.b8 32 u = AV.b8 32 u) ∧ ((AV.bool false = AV.bool false) ∧ ((AV.u64 ((UInt8.toUInt64 (shr8 (List.getD x0 (ofs 0 (wr .i64 (Int.tdiv (254 - ((w1 : Nat) : Int)) 8))) 0) (Int.toNat (Int.tmod (254 - ((w1 : Nat) : Int)) 8)))) &&& 1) = AV.u64 (bitU (Fld.lastB x0 w2))) ∧ ((AV.int .i64 (wr .i64 (subI (254 - ((w1 : Nat) : Int)) 1)) = AV.int .i64 (254 - ((w2 : Nat) : Int))) ∧ ((AV.b8 32 x0 = AV.b8 32 x0) ∧ ((AV.b8 32 u = AV.b8 32 u) ∧ ((AV.b8 32 x1 = AV.b8 32 x1) ∧ ((AV.w64 4 (Fld.fes x2) = AV.w64 4 (Fld.fes x2)) ∧ ((AV.w64 4 (Fld.fes (Fld.Rg.x0 (Fld.Rg.step x4 (Fld.Rg.mk (Fld.nv (cond (((bitU (Fld.lastB x0 w1)) ^^^ ((UInt8.toUInt64 (shr8 (List.getD x0 (ofs 0 (wr .i64 (Int.tdiv (254 - ((w1 : Nat) : Int)) 8))) 0) (Int.toNat (Int.tmod (254 - ((w1 : Nat) : Int)) 8)))) &&& (UInt64.ofNat (Int.toNat 1)))) == 1) (Fld.fes (Fld.Rg.x1 (Fld.lad x0 x2 w1))) (Fld.fes (Fld.Rg.x0 (Fld.lad x0 x2 w1))))) (Fld.nv (cond (((bitU (Fld.lastB x0 w1)) ^^^ ((UInt8.toUInt64 (shr8 (List.getD x0 (ofs 0 (wr .i64 (Int.tdiv (254 - ((w1 : Nat) : Int)) 8))) 0) (Int.toNat (Int.tmod (254 - ((w1 : Nat) : Int)) 8)))) &&& (UInt64.ofNat (Int.toNat 1)))) == 1) (Fld.fes (Fld.Rg.x0 (Fld.lad x0 x2 w1))) (Fld.fes (Fld.Rg.x1 (Fld.lad x0 x2 w1))))) (Fld.nv (cond (((bitU (Fld.lastB x0 w1)) ^^^ ((UInt8.toUInt64 (shr8 (List.getD x0 (ofs 0 (wr .i64 (Int.tdiv (254 - ((w1 : Nat) : Int)) 8))) 0) (Int.toNat (Int.tmod (254 - ((w1 : Nat) : Int)) 8)))) &&& (UInt64.ofNat (Int.toNat 1)))) == 1) (Fld.fes (Fld.Rg.z1 (Fld.lad x0 x2 w1))) (Fld.fes (Fld.Rg.z0 (Fld.lad x0 x2 w1))))) (Fld.nv (cond (((bitU (Fld.lastB x0 w1)) ^^^ ((UInt8.toUInt64 (shr8 (List.getD x0 (ofs 0 (wr .i64 (Int.tdiv (254 - ((w1 : Nat) : Int)) 8))) 0) (Int.toNat (Int.tmod (254 - ((w1 : Nat) : Int)) 8)))) &&& (UInt64.ofNat (Int.toNat 1)))) == 1) (Fld.fes (Fld.Rg.z0 (Fld.lad x0 x2 w1))) (Fld.fes (Fld.Rg.z1 (Fld.lad x0 x2 w1))))))))) = AV.w64 4 (Fld.fes (Fld.Rg.x0 (Fld.lad x0 x2 w2)))) ∧ ((AV.w64 4 (Fld.fes (Fld.Rg.x1 (Fld.Rg.step x4 (Fld.Rg.mk (Fld.nv (cond (((bitU (Fld.lastB x0 w1)) ^^^ ((UInt8.toUInt64 (shr8 (List.getD x0 (ofs 0 (wr .i64 (Int.tdiv (254 - ((w1 : Nat) : Int)) 8))) 0) (Int.toNat (Int.tmod (254 - ((w1 : Nat) : Int)) 8)))) &&& (UInt64.ofNat (Int.toNat 1)))) == 1) (Fld.fes (Fld.Rg.x1 (Fld.lad x0 x2 w1))) (Fld.fes (Fld.Rg.x0 (Fld.lad x0 x2 w1))))) (Fld.nv (cond (((bitU (Fld.lastB x0 w1)) ^^^ ((UInt8.toUInt64 (shr8 (List.getD x0 (ofs 0 (wr .i64 (Int.tdiv (254 - ((w1 : Nat) : Int)) 8))) 0) (Int.toNat (Int.tmod (254 - ((w1 : Nat) : Int)) 8)))) &&& (UInt64.ofNat (Int.toNat 1)))) == 1) (Fld.fes (Fld.Rg.x0 (Fld.lad x0 x2 w1))) (Fld.fes (Fld.Rg.x1 (Fld.lad x0 x2 w1))))) (Fld.nv (cond (((bitU (Fld.lastB x0 w1)) ^^^ ((UInt8.toUInt64 (shr8 (List.getD x0 (ofs 0 (wr .i64 (Int.tdiv (254 - ((w1 : Nat) : Int)) 8))) 0) (Int.toNat (Int.tmod (254 - ((w1 : Nat) : Int)) 8)))) &&& (UInt64.ofNat (Int.toNat 1)))) == 1) (Fld.fes (Fld.Rg.z1 (Fld.lad x0 x2 w1))) (Fld.fes (Fld.Rg.z0 (Fld.lad x0 x2 w1))))) (Fld.nv (cond (((bitU (Fld.lastB x0 w1)) ^^^ ((UInt8.toUInt64 (shr8 (List.getD x0 (ofs 0 (wr .i64 (Int.tdiv (254 - ((w1 : Nat) : Int)) 8))) 0) (Int.toNat (Int.tmod (254 - ((w1 : Nat) : Int)) 8)))) &&& (UInt64.ofNat (Int.toNat 1)))) == 1) (Fld.fes (Fld.Rg.z0 (Fld.lad x0 x2 w1))) (Fld.fes (Fld.Rg.z1 (Fld.lad x0 x2 w1))))))))) = AV.w64 4 (Fld.fes (Fld.Rg.x1 (Fld.lad x0 x2 w2)))) ∧ ((AV.w64 4 (Fld.fes (Fld.Rg.z0 (Fld.Rg.step x4 (Fld.Rg.mk (Fld.nv (cond (((bitU (Fld.lastB x0 w1)) ^^^ ((UInt8.toUInt64 (shr8 (List.getD x0 (ofs 0 (wr .i64 (Int.tdiv (254 - ((w1 : Nat) : Int)) 8))) 0) (Int.toNat (Int.tmod (254 - ((w1 : Nat) : Int)) 8)))) &&& (UInt64.ofNat (Int.toNat 1)))) == 1) (Fld.fes (Fld.Rg.x1 (Fld.lad x0 x2 w1))) (Fld.fes (Fld.Rg.x0 (Fld.lad x0 x2 w1))))) (Fld.nv (cond (((bitU (Fld.lastB x0 w1)) ^^^ ((UInt8.toUInt64 (shr8 (List.getD x0 (ofs 0 (wr .i64 (Int.tdiv (254 - ((w1 : Nat) : Int)) 8))) 0) (Int.toNat (Int.tmod (254 - ((w1 : Nat) : Int)) 8)))) &&& (UInt64.ofNat (Int.toNat 1)))) == 1) (Fld.fes (Fld.Rg.x0 (Fld.lad x0 x2 w1))) (Fld.fes (Fld.Rg.x1 (Fld.lad x0 x2 w1))))) (Fld.nv (cond (((bitU (Fld.lastB x0 w1)) ^^^ ((UInt8.toUInt64 (shr8 (List.getD x0 (ofs 0 (wr .i64 (Int.tdiv (254 - ((w1 : Nat) : Int)) 8))) 0) (Int.toNat (Int.tmod (254 - ((w1 : Nat) : Int)) 8)))) &&& (UInt64.ofNat (Int.toNat 1)))) == 1) (Fld.fes (Fld.Rg.z1 (Fld.lad x0 x2 w1))) (Fld.fes (Fld.Rg.z0 (Fld.lad x0 x2 w1))))) (Fld.nv (cond (((bitU (Fld.lastB x0 w1)) ^^^ ((UInt8.toUInt64 (shr8 (List.getD x0 (ofs 0 (wr .i64 (Int.tdiv (254 - ((w1 : Nat) : Int)) 8))) 0) (Int.toNat (Int.tmod (254 - ((w1 : Nat) : Int)) 8)))) &&& (UInt64.ofNat (Int.toNat 1)))) == 1) (Fld.fes (Fld.Rg.z0 (Fld.lad x0 x2 w1))) (Fld.fes (Fld.Rg.z1 (Fld.lad x0 x2 w1))))))))) = AV.w64 4 (Fld.fes (Fld.Rg.z0 (Fld.lad x0 x2 w2)))) ∧ ((AV.w64 4 (Fld.fes (Fld.Rg.z1 (Fld.Rg.step x4 (Fld.Rg.mk (Fld.nv (cond (((bitU (Fld.lastB x0 w1)) ^^^ ((UInt8.toUInt64 (shr8 (List.getD x0 (ofs 0 (wr .i64 (Int.tdiv (254 - ((w1 : Nat) : Int)) 8))) 0) (Int.toNat (Int.tmod (254 - ((w1 : Nat) : Int)) 8)))) &&& (UInt64.ofNat (Int.toNat 1)))) == 1) (Fld.fes (Fld.Rg.x1 (Fld.lad x0 x2 w1))) (Fld.fes (Fld.Rg.x0 (Fld.lad x0 x2 w1))))) (Fld.nv (cond (((bitU (Fld.lastB x0 w1)) ^^^ ((UInt8.toUInt64 (shr8 (List.getD x0 (ofs 0 (wr .i64 (Int.tdiv (254 - ((w1 : Nat) : Int)) 8))) 0) (Int.toNat (Int.tmod (254 - ((w1 : Nat) : Int)) 8)))) &&& (UInt64.ofNat (Int.toNat 1)))) == 1) (Fld.fes (Fld.Rg.x0 (Fld.lad x0 x2 w1))) (Fld.fes (Fld.Rg.x1 (Fld.lad x0 x2 w1))))) (Fld.nv (cond (((bitU (Fld.lastB x0 w1)) ^^^ ((UInt8.toUInt64 (shr8 (List.getD x0 (ofs 0 (wr .i64 (Int.tdiv (254 - ((w1 : Nat) : Int)) 8))) 0) (Int.toNat (Int.tmod (254 - ((w1 : Nat) : Int)) 8)))) &&& (UInt64.ofNat (Int.toNat 1)))) == 1) (Fld.fes (Fld.Rg.z1 (Fld.lad x0 x2 w1))) (Fld.fes (Fld.Rg.z0 (Fld.lad x0 x2 w1))))) (Fld.nv (cond (((bitU (Fld.lastB x0 w1)) ^^^ ((UInt8.toUInt64 (shr8 (List.getD x0 (ofs 0 (wr .i64 (Int.tdiv (254 - ((w1 : Nat) : Int)) 8))) 0) (Int.toNat (Int.tmod (254 - ((w1 : Nat) : Int)) 8)))) &&& (UInt64.ofNat (Int.toNat 1)))) == 1) (Fld.fes (Fld.Rg.z0 (Fld.lad x0 x2 w1))) (Fld.fes (Fld.Rg.z1 (Fld.lad x0 x2 w1))))))))) = AV.w64 4 (Fld.fes (Fld.Rg.z1 (Fld.lad x0 x2 w2)))) ∧ True)))))))))))))))))))
 (cnd (((bitU (Fld.lastB x0 w1)) == 0) || ((bitU (Fld.lastB x0 w1)) == 1))
 (cnd (Fld.ltN (Fld.nv (cond ((bitU (Fld.lastB x0 w1)) == 1) (Fld.fes (Fld.Rg.z1 (Fld.lad x0 x2 w1))) (Fld.fes (Fld.Rg.z0 (Fld.lad x0 x2 w1))))) x3)
 (cnd ((Fld.ltN (Fld.nv (cond ((bitU (Fld.lastB x0 w1)) == 1) (Fld.fes (Fld.Rg.x1 (Fld.lad x0 x2 w1))) (Fld.fes (Fld.Rg.x0 (Fld.lad x0 x2 w1))))) x3) && (Fld.ltN (Fld.nv (Fld.fes (((Fld.nv (cond ((bitU (Fld.lastB x0 w1)) == 1) (Fld.fes (Fld.Rg.z1 (Fld.lad x0 x2 w1))) (Fld.fes (Fld.Rg.z0 (Fld.lad x0 x2 w1))))) ^ 57896044618658097711785492504343953926634992332820282019728792003956564819947) % x3))) x3))
 (cnd (Fld.ltN (Fld.nv (Fld.fes (Fld.mulm (Fld.nv (cond ((bitU (Fld.lastB x0 w1)) == 1) (Fld.fes (Fld.Rg.x1 (Fld.lad x0 x2 w1))) (Fld.fes (Fld.Rg.x0 (Fld.lad x0 x2 w1))))) (Fld.nv (Fld.fes (((Fld.nv (cond ((bitU (Fld.lastB x0 w1)) == 1) (Fld.fes (Fld.Rg.z1 (Fld.lad x0 x2 w1))) (Fld.fes (Fld.Rg.z0 (Fld.lad x0 x2 w1))))) ^ 57896044618658097711785492504343953926634992332820282019728792003956564819947) % x3)))))) x3)
 (K (AV.tup [AV.b8 32 (Fld.bytesS (Fld.nv (Fld.fes (Fld.mulm (Fld.nv (cond ((bitU (Fld.lastB x0 w1)) == 1) (Fld.fes (Fld.Rg.x1 (Fld.lad x0 x2 w1))) (Fld.fes (Fld.Rg.x0 (Fld.lad x0 x2 w1))))) (Fld.nv (Fld.fes (((Fld.nv (cond ((bitU (Fld.lastB x0 w1)) == 1) (Fld.fes (Fld.Rg.z1 (Fld.lad x0 x2 w1))) (Fld.fes (Fld.Rg.z0 (Fld.lad x0 x2 w1))))) ^ 57896044618658097711785492504343953926634992332820282019728792003956564819947) % x3))))))), AV.bool (Bool.not ((Fld.bytesS (Fld.nv (Fld.fes (Fld.mulm (Fld.nv (cond ((bitU (Fld.lastB x0 w1)) == 1) (Fld.fes (Fld.Rg.x1 (Fld.lad x0 x2 w1))) (Fld.fes (Fld.Rg.x0 (Fld.lad x0 x2 w1))))) (Fld.nv (Fld.fes (((Fld.nv (cond ((bitU (Fld.lastB x0 w1)) == 1) (Fld.fes (Fld.Rg.z1 (Fld.lad x0 x2 w1))) (Fld.fes (Fld.Rg.z0 (Fld.lad x0 x2 w1))))) ^ 57896044618658097711785492504343953926634992332820282019728792003956564819947) % x3))))))) == x1))]) [])))))))) := by kernel_rfl
theorem wrap_i64_of {n : Int} (h : -9223372036854775808 ≤ n) (h2 : n ≤ 9223372036854775807) : IntKind.i64.wrap n = n := by
 have := IntKind.wrap_i64 n
 rw [this]; omega
theorem bitU_xor (a b : Bool) : bitU a ^^^ bitU b = bitU (a ^^ b) := by cases a <;> cases b <;> decide
theorem bitU_one (a : Bool) : (bitU a == 1) = a := by cases a <;> decide
theorem bitU_zero (a : Bool) : (bitU a == 0) = !a := by cases a <;> decide
theorem idx_of {a : Nat} (h : a ≤ 254) : (254 - (a : Int)).tdiv 8 = (((254 - a) / 8 : Nat) : Int) ∧ (254 - (a : Int)).tmod 8 = (((254 - a) % 8 : Nat) : Int) := by
 have e : 254 - (a : Int) = ((254 - a : Nat) : Int) := by omega
 rw [e]
 exact ⟨by rw [Int.tdiv_eq_ediv_of_nonneg (by omega)]; omega, by rw [Int.tmod_eq_emod_of_nonneg (by omega)]; omega⟩
theorem bit_eq (k : List UInt8) {a : Nat} (h : a ≤ 254) : (shr8 (k.getD (ofs 0 (IntKind.i64.wrap ((254 - (a : Int)).tdiv 8))) 0) ((254 - (a : Int)).tmod 8).toNat).toUInt64 &&& 1 = bitU (kbit k (254 - a)) := by
 obtain ⟨e1, e2⟩ := idx_of h
 rw [e1, e2, wrap_i64_of (by omega) (by omega), ofs_eq, Int.toNat_natCast, Int.toNat_natCast, Nat.zero_add, kbit]
 generalize k.getD ((254 - a) / 8) 0 = x
 generalize (254 - a) % 8 = j
 apply UInt64.toNat_inj.1
 have hx : x.toNat / 2 ^ j < 256 := Nat.lt_of_le_of_lt (Nat.div_le_self _ _) x.toNat_lt
 rw [UInt64.toNat_and, UInt8.toNat_toUInt64, shr8, UInt8.toNat_ofNat', Nat.mod_eq_of_lt hx, show (1 : UInt64).toNat = 2 ^ 1 - 1 from rfl, Nat.and_two_pow_sub_one_eq_mod]
 rcases Nat.mod_two_eq_zero_or_one (x.toNat / 2 ^ j) with h | h <;> rw [Nat.pow_one, h] <;> rfl
theorem multN_eq (k : List UInt8) (u n e : Nat) (h : n = 255) (he : prm - 2 = e) : multN k u = mulm (cond (lastB k n) (lad k u n).x1 (lad k u n).x0) (cond (lastB k n) (lad k u n).z1 (lad k u n).z0 ^ e % prm) := by
 rw [multN, ladEnd, ← h, he]
 generalize lad k u n = r
 cases lastB k n <;> rfl
theorem mult_fin (b : Bool) (r : Rg) (e : Nat) (l0 : r.x0 < prm) (l1 : r.x1 < prm) (l2 : r.z0 < prm) (l3 : r.z1 < prm) :
  cnd (ltN (nv (cond b (fes r.z1) (fes r.z0))) prm)
   (cnd (ltN (nv (cond b (fes r.x1) (fes r.x0))) prm && ltN (nv (fes (nv (cond b (fes r.z1) (fes r.z0)) ^ e % prm))) prm)
    (cnd (ltN (nv (fes (mulm (nv (cond b (fes r.x1) (fes r.x0))) (nv (fes (nv (cond b (fes r.z1) (fes r.z0)) ^ e % prm)))))) prm)
     ((Out.ret (.tup [.b8 32 (bytesS (mulm (cond b r.x1 r.x0) (cond b r.z1 r.z0 ^ e % prm))), .bool (!(bytesS (mulm (cond b r.x1 r.x0) (cond b r.z1 r.z0 ^ e % prm)) == List.replicate 32 0))]) []).has
      (.tup [.b8 32 (bytesS (nv (fes (mulm (nv (cond b (fes r.x1) (fes r.x0))) (nv (fes (nv (cond b (fes r.z1) (fes r.z0)) ^ e % prm))))))), .bool (!(bytesS (nv (fes (mulm (nv (cond b (fes r.x1) (fes r.x0))) (nv (fes (nv (cond b (fes r.z1) (fes r.z0)) ^ e % prm)))))) == [0, 0, 0, 0, 0, 0, 0, 0, 0, 0, 0, 0, 0, 0, 0, 0, 0, 0, 0, 0, 0, 0, 0, 0, 0, 0, 0, 0, 0, 0, 0, 0]))]) []))) := by
 cases b <;> simp only [cond_true, cond_false, nv_fesp l0, nv_fesp l1, nv_fesp l2, nv_fesp l3, ltN_p l0, ltN_p l1, ltN_p l2, ltN_p l3, nv_mod, ltN_mod, nv_mulm, ltN_mulm, Bool.and_self, cnd_true] <;> exact ⟨rfl, rfl⟩
theorem mult_c (k u : List UInt8) : HCall Tryz.E 22 [.b8 32 k, .b8 32 u]
  (.ret (.tup [.b8 32 (bytesS (multN (clampB k) (fromN u))), .bool (!(bytesS (multN (clampB k) (fromN u)) == List.replicate 32 0))]) []) := by
 refine HCall.of_walk (R := RR) (T := T8) (fun f l => bif f == 22 && l == 6 then .inv Nat (fun n => n ≤ 255) (fun n => 255 - n) (multT k u) (multH k u) else .unroll 6) 5 rfl rfl ?_
 rw [mult_eq]
 simp only [wr_eq, subI_eq]
 have hu := fromN_lt u
 have h1 : List.set [0, 0, 0, 0] 0 1 = fes 1 := by rw [fes_eq]; rfl
 have h0 : [0, 0, 0, 0] = fes 0 := by rw [fes_eq]; rfl
 refine ⟨⟨0, Nat.zero_le _, trivial, trivial, trivial, rfl, rfl, trivial, trivial, trivial, trivial, by rw [h1]; rfl, rfl, by rw [h0]; rfl, by rw [h1]; rfl, trivial⟩, fun a ha => ?_⟩
 have ha : a ≤ 255 := ha
 obtain ⟨l0, l1, l2, l3⟩ := lad_lt (clampB k) hu a
 rcases Nat.lt_or_ge a 255 with h | h
 ·have h5 : a ≤ 254 := by omega
  obtain ⟨e1, e2⟩ := idx_of h5
  have c1 : inB (IntKind.i64.wrap ((254 - (a : Int)).tdiv 8)) 32 = true := by
   rw [e1, wrap_i64_of (by omega) (by omega)]; exact inB_of (by omega) (by omega)
  have c2 : nnB ((254 - (a : Int)).tmod 8) = true := by rw [e2]; exact nnB_iff.2 (by omega)
  have c0 : (!ltI (254 - (a : Int)) 0) = true := by rw [ltI_eq]; simp; omega
  have h1 : UInt64.ofNat (Int.toNat 1) = 1 := rfl
  simp only [c0, c1, c2, h1, bit_eq _ h5, bitU_xor, bitU_one, bitU_zero, Bool.not_or_self, cnd_true, ite2, hprm]
  have hnext : lad (clampB k) (fromN u) (a + 1) = ((lad (clampB k) (fromN u) a).swapB (lastB (clampB k) a ^^ kbit (clampB k) (254 - a))).step (fromN u) := rfl
  rw [cnd_eq]
  refine ⟨?_, a + 1, ⟨?_, Nat.succ_le_of_lt h⟩, trivial, trivial, trivial, rfl, ?_, trivial, trivial, trivial, trivial, ?_, ?_, ?_, ?_, trivial⟩
  ·cases (lastB (clampB k) a ^^ kbit (clampB k) (254 - a)) <;> simp only [cond_true, cond_false, nv_fesp l0, nv_fesp l1, nv_fesp l2, nv_fesp l3, ltN_p l0, ltN_p l1, ltN_p l2, ltN_p l3, nv_fesp hu, ltN_p hu, Bool.and_self]
  ·show 255 - (a + 1) < 255 - a
   omega
  ·rw [wrap_i64_of (by omega) (by omega)]; congr 1; omega
  all_goals
   rw [hnext]
   cases (lastB (clampB k) a ^^ kbit (clampB k) (254 - a)) <;> simp only [cond_true, cond_false, nv_fesp l0, nv_fesp l1, nv_fesp l2, nv_fesp l3, nv_fesp hu, Rg.swapB, Rg.swap] <;> rfl
 ·have h255 : a = 255 := Nat.le_antisymm ha h
  have c0 : (!ltI (254 - (a : Int)) 0) = false := by rw [ltI_eq]; simp; omega
  obtain ⟨e, he, he'⟩ : ∃ e : Nat, 57896044618658097711785492504343953926634992332820282019728792003956564819947 = e ∧ prm - 2 = e := ⟨_, rfl, rfl⟩
  have hm := multN_eq (clampB k) (fromN u) a e h255 he'
  simp only [c0, bitU_one, bitU_zero, Bool.not_or_self, cnd_true, ite2, hprm, he]
  rw [hm]
  exact mult_fin _ _ _ l0 l1 l2 l3
end Go.Proofs.YtehaohfglolljaaGreatDoor
namespace Go.Proofs.YtehaohfglolljaaGreatDoor
open Go Go.V Go.Fld Go.Edw
set_option maxRecDepth 100000
noncomputable def dhS : List UInt8 → List UInt8 → List UInt8 := (sealed fun k u => bytesS (multN (clampB k) (fromN u))).val
theorem dhS_eq (k u : List UInt8) : dhS k u = bytesS (multN (clampB k) (fromN u)) := by rw [dhS, (sealed fun k u => bytesS (multN (clampB k) (fromN u))).property]
noncomputable def tellS : List UInt8 → List UInt8 → Bool := (sealed fun k u => !(bytesS (multN (clampB k) (fromN u)) == List.replicate 32 0)).val
theorem tellS_eq (k u : List UInt8) : tellS k u = !(bytesS (multN (clampB k) (fromN u)) == List.replicate 32 0) := by rw [tellS, (sealed fun k u => !(bytesS (multN (clampB k) (fromN u)) == List.replicate 32 0)).property]
noncomputable def pubS : List UInt8 → List UInt8 := (sealed fun k => bytesS (multN (clampB k) 9)).val
theorem pubS_eq (k : List UInt8) : pubS k = bytesS (multN (clampB k) 9) := by rw [pubS, (sealed fun k => bytesS (multN (clampB k) 9)).property]
theorem length_pubS (k : List UInt8) : (pubS k).length = 32 := by rw [pubS_eq, length_bytesS]
noncomputable def T8m : Ctr Tryz.E := T8.add 22 (fun
  | [.b8 32 k, .b8 32 u] => some (true, .ret (.tup [.b8 32 (bytesS (multN (clampB k) (fromN u))), .bool (!(bytesS (multN (clampB k) (fromN u)) == List.replicate 32 0))]) [])
  | _ => none) (by
   intro args pre out h hp
   split at h
   ·simp only [Option.some.injEq, Prod.mk.injEq] at h
    obtain ⟨rfl, rfl⟩ := h
    exact mult_c _ _
   ·simp at h)
theorem baseM_w (k : List UInt8) (K : AV → Heap → Prop) : walk Tryz.E RR T8m.C (fun _ _ => .unroll 6) 3 7 [.b8 32 k] K = K (.b8 32 (bytesS (multN (clampB k) 9))) [] := by kernel_rfl
theorem baseM_c (k : List UInt8) : HCall Tryz.E 7 [.b8 32 k] (.ret (.b8 32 (pubS k)) []) := by
 refine HCall.of_walk (R := RR) (T := T8m) (fun _ _ => .unroll 6) 3 rfl rfl ?_
 rw [baseM_w, pubS_eq]
 exact ⟨rfl, rfl⟩
theorem multM_c (k u : List UInt8) : HCall Tryz.E 22 [.b8 32 k, .b8 32 u] (.ret (.tup [.b8 32 (dhS k u), .bool (tellS k u)]) []) := by
 rw [dhS_eq, tellS_eq]
 exact mult_c k u
noncomputable def M1 : Ctr Tryz.E := ((Ctr.nil Tryz.E).add 22 (fun
  | [.b8 32 k, .b8 32 u] => some (true, .ret (.tup [.b8 32 (dhS k u), .bool (tellS k u)]) [])
  | _ => none) (by
   intro args pre out h hp
   split at h
   ·simp only [Option.some.injEq, Prod.mk.injEq] at h
    obtain ⟨rfl, rfl⟩ := h
    exact multM_c _ _
   ·simp at h)).add 7 (fun
  | [.b8 32 k] => some (true, .ret (.b8 32 (pubS k)) [])
  | _ => none) (by
   intro args pre out h hp
   split at h
   ·simp only [Option.some.injEq, Prod.mk.injEq] at h
    obtain ⟨rfl, rfl⟩ := h
    exact baseM_c _
   ·simp at h)
end Go.Proofs.YtehaohfglolljaaGreatDoor