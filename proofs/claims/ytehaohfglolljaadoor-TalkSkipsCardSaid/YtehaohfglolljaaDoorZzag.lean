import Derived.Test.YtehaohfglolljaaDoorProg
import Derived.Test.YtehaohfglolljaaDoorZzac
import Derived.Test.YtehaohfglolljaaDoorZzaf
import Derived.KernelRfl
set_option linter.unusedSimpArgs false
set_option linter.unusedVariables false
namespace Go.Proofs
open Go Go.V
def Tryd.ti1 : TI := ⟨1, 8, .other, some (.raw .nilFunc), false, false⟩
def Tryd.ti2 : TI := ⟨1, 8, .int .i64, some (.int .i64 0), false, false⟩
def Tryd.ti3 : TI := Tryd.ti2
def Tryd.ti4 : TI := ⟨1, 1, .bool, some (.bool false), false, false⟩
def Tryd.ti5 : TI := ⟨1, 1, .int .u8, some (.u8 0), false, false⟩
def Tryd.ti6 : TI := Tryd.ti5
def Tryd.ti7 : TI := ⟨4, 24, .str [(0, 2), (1, 3), (2, 4), (3, 6)], some (.agg [.int .i64 0, .int .i64 0, .bool false, .u8 0]), false, false⟩
def Tryd.ti8 : TI := Tryd.ti7
def Tryd.ti9 : TI := ⟨1, 16, .string, some (.str []), false, false⟩
def Tryd.ti10 : TI := Tryd.ti9
def Tryd.ti11 : TI := Tryd.ti9
def Tryd.ti12 : TI := ⟨1, 8, .int .u64, some (.u64 0), false, false⟩
def Tryd.ti13 : TI := ⟨2, 24, .str [(0, 9), (1, 12)], some (.agg [.str [], .u64 0]), false, false⟩
def Tryd.ti14 : TI := Tryd.ti13
def Tryd.ti15 : TI := ⟨1, 8, .ptr 155, some (.raw (.pointer none)), false, false⟩
def Tryd.ti16 : TI := ⟨1, 8, .ptr 158, some (.raw (.pointer none)), false, false⟩
def Tryd.ti17 : TI := ⟨1, 8, .ptr 167, some (.raw (.pointer none)), false, false⟩
def Tryd.ti18 : TI := ⟨1, 8, .str [(0, 17)], some (.agg [.raw (.pointer none)]), false, false⟩
def Tryd.ti19 : TI := Tryd.ti18
def Tryd.ti21 : TI := ⟨1, 4, .int .i32, some (.int .i32 0), false, false⟩
def Tryd.ti22 : TI := ⟨1, 24, .slice 32, some (.vec true 4 []), false, false⟩
def Tryd.ti23 : TI := ⟨32, 32, .arr 32 5, some (.b8 32 [0, 0, 0, 0, 0, 0, 0, 0, 0, 0, 0, 0, 0, 0, 0, 0, 0, 0, 0, 0, 0, 0, 0, 0, 0, 0, 0, 0, 0, 0, 0, 0]), true, false⟩
def Tryd.ti24 : TI := Tryd.ti23
def Tryd.ti25 : TI := ⟨1, 24, .slice 66, some (.vec true 65 []), false, false⟩
def Tryd.ti26 : TI := ⟨166, 216, .str [(0, 24), (32, 24), (64, 24), (96, 24), (128, 3), (129, 24), (161, 3), (162, 3), (163, 4), (164, 4), (165, 25)], some (.agg [.b8 32 [0, 0, 0, 0, 0, 0, 0, 0, 0, 0, 0, 0, 0, 0, 0, 0, 0, 0, 0, 0, 0, 0, 0, 0, 0, 0, 0, 0, 0, 0, 0, 0], .b8 32 [0, 0, 0, 0, 0, 0, 0, 0, 0, 0, 0, 0, 0, 0, 0, 0, 0, 0, 0, 0, 0, 0, 0, 0, 0, 0, 0, 0, 0, 0, 0, 0], .b8 32 [0, 0, 0, 0, 0, 0, 0, 0, 0, 0, 0, 0, 0, 0, 0, 0, 0, 0, 0, 0, 0, 0, 0, 0, 0, 0, 0, 0, 0, 0, 0, 0], .b8 32 [0, 0, 0, 0, 0, 0, 0, 0, 0, 0, 0, 0, 0, 0, 0, 0, 0, 0, 0, 0, 0, 0, 0, 0, 0, 0, 0, 0, 0, 0, 0, 0], .int .i64 0, .b8 32 [0, 0, 0, 0, 0, 0, 0, 0, 0, 0, 0, 0, 0, 0, 0, 0, 0, 0, 0, 0, 0, 0, 0, 0, 0, 0, 0, 0, 0, 0, 0, 0], .int .i64 0, .int .i64 0, .bool false, .bool false, .vec true 65 []]), false, false⟩
def Tryd.ti27 : TI := Tryd.ti26
def Tryd.ti29 : TI := Tryd.ti1
def Tryd.ti30 : TI := Tryd.ti1
def Tryd.ti31 : TI := ⟨4, 40, .str [(0, 3), (1, 3), (2, 3), (3, 9)], some (.agg [.int .i64 0, .int .i64 0, .int .i64 0, .str []]), true, true⟩
def Tryd.ti32 : TI := Tryd.ti31
def Tryd.ti33 : TI := Tryd.ti1
def Tryd.ti34 : TI := Tryd.ti1
def Tryd.ti35 : TI := ⟨1, 24, .slice 5, some (.vec8 true []), false, false⟩
def Tryd.ti36 : TI := ⟨34, 48, .str [(0, 24), (32, 3), (33, 3)], some (.agg [.b8 32 [0, 0, 0, 0, 0, 0, 0, 0, 0, 0, 0, 0, 0, 0, 0, 0, 0, 0, 0, 0, 0, 0, 0, 0, 0, 0, 0, 0, 0, 0, 0, 0], .int .i64 0, .int .i64 0]), true, true⟩
def Tryd.ti37 : TI := Tryd.ti36
def Tryd.ti38 : TI := Tryd.ti2
def Tryd.ti40 : TI := Tryd.ti1
def Tryd.ti42 : TI := Tryd.ti1
def Tryd.ti43 : TI := Tryd.ti1
def Tryd.ti44 : TI := Tryd.ti1
def Tryd.ti45 : TI := Tryd.ti1
def Tryd.ti46 : TI := ⟨1, 24, .slice 3, some (.vec true 1 []), false, false⟩
def Tryd.ti47 : TI := ⟨1, 24, .slice 49, some (.vec true 36 []), false, false⟩
def Tryd.ti48 : TI := ⟨36, 88, .str [(0, 37), (34, 35), (35, 9)], some (.agg [.agg [.b8 32 [0, 0, 0, 0, 0, 0, 0, 0, 0, 0, 0, 0, 0, 0, 0, 0, 0, 0, 0, 0, 0, 0, 0, 0, 0, 0, 0, 0, 0, 0, 0, 0], .int .i64 0, .int .i64 0], .vec8 true [], .str []]), false, false⟩
def Tryd.ti49 : TI := Tryd.ti48
def Tryd.ti50 : TI := Tryd.ti1
def Tryd.ti51 : TI := Tryd.ti1
def Tryd.ti53 : TI := Tryd.ti1
def Tryd.ti54 : TI := Tryd.ti1
def Tryd.ti55 : TI := Tryd.ti1
def Tryd.ti57 : TI := Tryd.ti1
def Tryd.ti59 : TI := Tryd.ti1
def Tryd.ti60 : TI := Tryd.ti1
def Tryd.ti61 : TI := ⟨12, 12, .arr 12 5, some (.b8 12 [0, 0, 0, 0, 0, 0, 0, 0, 0, 0, 0, 0]), true, false⟩
def Tryd.ti62 : TI := Tryd.ti1
def Tryd.ti63 : TI := Tryd.ti1
def Tryd.ti64 : TI := Tryd.ti1
def Tryd.ti65 : TI := ⟨65, 72, .str [(0, 24), (32, 3), (33, 24)], some (.agg [.b8 32 [0, 0, 0, 0, 0, 0, 0, 0, 0, 0, 0, 0, 0, 0, 0, 0, 0, 0, 0, 0, 0, 0, 0, 0, 0, 0, 0, 0, 0, 0, 0, 0], .int .i64 0, .b8 32 [0, 0, 0, 0, 0, 0, 0, 0, 0, 0, 0, 0, 0, 0, 0, 0, 0, 0, 0, 0, 0, 0, 0, 0, 0, 0, 0, 0, 0, 0, 0, 0]]), true, true⟩
def Tryd.ti66 : TI := Tryd.ti65
def Tryd.ti67 : TI := Tryd.ti1
def Tryd.ti68 : TI := Tryd.ti1
def Tryd.ti69 : TI := Tryd.ti1
def Tryd.ti70 : TI := ⟨1, 4, .int .u32, some (.u32 0), false, false⟩
def Tryd.ti72 : TI := Tryd.ti1
def Tryd.ti74 : TI := Tryd.ti1
def Tryd.ti75 : TI := ⟨2, 16, .arr 2 3, some (.agg [.int .i64 0, .int .i64 0]), true, false⟩
def Tryd.ti76 : TI := Tryd.ti12
def Tryd.ti77 : TI := Tryd.ti1
def Tryd.ti78 : TI := Tryd.ti1
def Tryd.ti79 : TI := ⟨16, 16, .arr 16 5, some (.b8 16 [0, 0, 0, 0, 0, 0, 0, 0, 0, 0, 0, 0, 0, 0, 0, 0]), true, false⟩
def Tryd.ti80 : TI := Tryd.ti1
def Tryd.ti81 : TI := ⟨64, 64, .arr 2 24, some (.agg [.b8 32 [0, 0, 0, 0, 0, 0, 0, 0, 0, 0, 0, 0, 0, 0, 0, 0, 0, 0, 0, 0, 0, 0, 0, 0, 0, 0, 0, 0, 0, 0, 0, 0], .b8 32 [0, 0, 0, 0, 0, 0, 0, 0, 0, 0, 0, 0, 0, 0, 0, 0, 0, 0, 0, 0, 0, 0, 0, 0, 0, 0, 0, 0, 0, 0, 0, 0]]), true, false⟩
def Tryd.ti82 : TI := Tryd.ti1
def Tryd.ti83 : TI := Tryd.ti12
def Tryd.ti84 : TI := ⟨4, 32, .arr 4 83, some (.w64 4 [0, 0, 0, 0]), true, false⟩
def Tryd.ti85 : TI := Tryd.ti84
def Tryd.ti86 : TI := Tryd.ti1
def Tryd.ti87 : TI := ⟨8, 64, .arr 2 85, some (.agg [.w64 4 [0, 0, 0, 0], .w64 4 [0, 0, 0, 0]]), true, false⟩
def Tryd.ti88 : TI := ⟨16, 128, .str [(0, 87), (8, 87)], some (.agg [.agg [.w64 4 [0, 0, 0, 0], .w64 4 [0, 0, 0, 0]], .agg [.w64 4 [0, 0, 0, 0], .w64 4 [0, 0, 0, 0]]]), true, true⟩
def Tryd.ti89 : TI := Tryd.ti88
def Tryd.ti90 : TI := Tryd.ti1
def Tryd.ti91 : TI := Tryd.ti1
def Tryd.ti93 : TI := Tryd.ti1
def Tryd.ti95 : TI := Tryd.ti1
def Tryd.ti96 : TI := Tryd.ti1
def Tryd.ti97 : TI := Tryd.ti1
def Tryd.ti98 : TI := ⟨64, 64, .arr 64 5, some (.b8 64 (List.replicate 64 0)), true, false⟩
def Tryd.ti99 : TI := Tryd.ti1
def Tryd.ti100 : TI := Tryd.ti1
def Tryd.ti101 : TI := Tryd.ti1
def Tryd.ti102 : TI := Tryd.ti1
def Tryd.ti103 : TI := Tryd.ti1
def Tryd.ti104 : TI := ⟨96, 96, .arr 3 24, some (.agg [.b8 32 [0, 0, 0, 0, 0, 0, 0, 0, 0, 0, 0, 0, 0, 0, 0, 0, 0, 0, 0, 0, 0, 0, 0, 0, 0, 0, 0, 0, 0, 0, 0, 0], .b8 32 [0, 0, 0, 0, 0, 0, 0, 0, 0, 0, 0, 0, 0, 0, 0, 0, 0, 0, 0, 0, 0, 0, 0, 0, 0, 0, 0, 0, 0, 0, 0, 0], .b8 32 [0, 0, 0, 0, 0, 0, 0, 0, 0, 0, 0, 0, 0, 0, 0, 0, 0, 0, 0, 0, 0, 0, 0, 0, 0, 0, 0, 0, 0, 0, 0, 0]]), true, false⟩
def Tryd.ti105 : TI := Tryd.ti1
def Tryd.ti106 : TI := Tryd.ti1
def Tryd.ti107 : TI := Tryd.ti1
def Tryd.ti108 : TI := Tryd.ti1
def Tryd.ti109 : TI := ⟨1, 24, .slice 35, some (.vec true 1 []), false, false⟩
def Tryd.ti110 : TI := ⟨8, 32, .arr 8 70, some (.w32 8 [0, 0, 0, 0, 0, 0, 0, 0]), true, false⟩
def Tryd.ti111 : TI := ⟨74, 112, .str [(0, 110), (8, 98), (72, 3), (73, 3)], some (.agg [.w32 8 [0, 0, 0, 0, 0, 0, 0, 0], .b8 64 (List.replicate 64 0), .int .i64 0, .int .i64 0]), true, true⟩
def Tryd.ti112 : TI := Tryd.ti111
def Tryd.ti114 : TI := Tryd.ti1
def Tryd.ti115 : TI := Tryd.ti1
def Tryd.ti117 : TI := Tryd.ti1
def Tryd.ti118 : TI := ⟨16, 64, .arr 16 70, some (.w32 16 [0, 0, 0, 0, 0, 0, 0, 0, 0, 0, 0, 0, 0, 0, 0, 0]), true, false⟩
def Tryd.ti119 : TI := Tryd.ti118
def Tryd.ti120 : TI := Tryd.ti1
def Tryd.ti121 : TI := Tryd.ti1
def Tryd.ti122 : TI := ⟨1, 8, .ptr 119, some (.raw (.pointer none)), false, false⟩
def Tryd.ti123 : TI := ⟨2, 16, .arr 2 83, some (.w64 2 [0, 0]), true, false⟩
def Tryd.ti124 : TI := ⟨3, 24, .arr 3 83, some (.w64 3 [0, 0, 0]), true, false⟩
def Tryd.ti125 : TI := ⟨24, 80, .str [(0, 123), (2, 123), (4, 124), (7, 79), (23, 3)], some (.agg [.w64 2 [0, 0], .w64 2 [0, 0], .w64 3 [0, 0, 0], .b8 16 [0, 0, 0, 0, 0, 0, 0, 0, 0, 0, 0, 0, 0, 0, 0, 0], .int .i64 0]), true, true⟩
def Tryd.ti126 : TI := Tryd.ti125
def Tryd.ti128 : TI := Tryd.ti1
def Tryd.ti129 : TI := Tryd.ti1
def Tryd.ti131 : TI := Tryd.ti1
def Tryd.ti133 : TI := Tryd.ti1
def Tryd.ti134 : TI := ⟨8, 64, .arr 8 83, some (.w64 8 [0, 0, 0, 0, 0, 0, 0, 0]), true, false⟩
def Tryd.ti136 : TI := Tryd.ti1
def Tryd.ti137 : TI := Tryd.ti1
def Tryd.ti138 : TI := Tryd.ti1
def Tryd.ti139 : TI := Tryd.ti1
def Tryd.ti140 : TI := Tryd.ti1
def Tryd.ti141 : TI := Tryd.ti1
def Tryd.ti142 : TI := Tryd.ti1
def Tryd.ti143 : TI := Tryd.ti1
def Tryd.ti144 : TI := Tryd.ti1
def Tryd.ti145 : TI := Tryd.ti1
def Tryd.ti146 : TI := Tryd.ti1
def Tryd.ti147 : TI := Tryd.ti1
def Tryd.ti148 : TI := ⟨16, 128, .arr 16 3, some (.agg [.int .i64 0, .int .i64 0, .int .i64 0, .int .i64 0, .int .i64 0, .int .i64 0, .int .i64 0, .int .i64 0, .int .i64 0, .int .i64 0, .int .i64 0, .int .i64 0, .int .i64 0, .int .i64 0, .int .i64 0, .int .i64 0]), true, false⟩
def Tryd.ti149 : TI := ⟨160, 1280, .arr 10 148, some (.agg [.agg [.int .i64 0, .int .i64 0, .int .i64 0, .int .i64 0, .int .i64 0, .int .i64 0, .int .i64 0, .int .i64 0, .int .i64 0, .int .i64 0, .int .i64 0, .int .i64 0, .int .i64 0, .int .i64 0, .int .i64 0, .int .i64 0], .agg [.int .i64 0, .int .i64 0, .int .i64 0, .int .i64 0, .int .i64 0, .int .i64 0, .int .i64 0, .int .i64 0, .int .i64 0, .int .i64 0, .int .i64 0, .int .i64 0, .int .i64 0, .int .i64 0, .int .i64 0, .int .i64 0], .agg [.int .i64 0, .int .i64 0, .int .i64 0, .int .i64 0, .int .i64 0, .int .i64 0, .int .i64 0, .int .i64 0, .int .i64 0, .int .i64 0, .int .i64 0, .int .i64 0, .int .i64 0, .int .i64 0, .int .i64 0, .int .i64 0], .agg [.int .i64 0, .int .i64 0, .int .i64 0, .int .i64 0, .int .i64 0, .int .i64 0, .int .i64 0, .int .i64 0, .int .i64 0, .int .i64 0, .int .i64 0, .int .i64 0, .int .i64 0, .int .i64 0, .int .i64 0, .int .i64 0], .agg [.int .i64 0, .int .i64 0, .int .i64 0, .int .i64 0, .int .i64 0, .int .i64 0, .int .i64 0, .int .i64 0, .int .i64 0, .int .i64 0, .int .i64 0, .int .i64 0, .int .i64 0, .int .i64 0, .int .i64 0, .int .i64 0], .agg [.int .i64 0, .int .i64 0, .int .i64 0, .int .i64 0, .int .i64 0, .int .i64 0, .int .i64 0, .int .i64 0, .int .i64 0, .int .i64 0, .int .i64 0, .int .i64 0, .int .i64 0, .int .i64 0, .int .i64 0, .int .i64 0], .agg [.int .i64 0, .int .i64 0, .int .i64 0, .int .i64 0, .int .i64 0, .int .i64 0, .int .i64 0, .int .i64 0, .int .i64 0, .int .i64 0, .int .i64 0, .int .i64 0, .int .i64 0, .int .i64 0, .int .i64 0, .int .i64 0], .agg [.int .i64 0, .int .i64 0, .int .i64 0, .int .i64 0, .int .i64 0, .int .i64 0, .int .i64 0, .int .i64 0, .int .i64 0, .int .i64 0, .int .i64 0, .int .i64 0, .int .i64 0, .int .i64 0, .int .i64 0, .int .i64 0], .agg [.int .i64 0, .int .i64 0, .int .i64 0, .int .i64 0, .int .i64 0, .int .i64 0, .int .i64 0, .int .i64 0, .int .i64 0, .int .i64 0, .int .i64 0, .int .i64 0, .int .i64 0, .int .i64 0, .int .i64 0, .int .i64 0], .agg [.int .i64 0, .int .i64 0, .int .i64 0, .int .i64 0, .int .i64 0, .int .i64 0, .int .i64 0, .int .i64 0, .int .i64 0, .int .i64 0, .int .i64 0, .int .i64 0, .int .i64 0, .int .i64 0, .int .i64 0, .int .i64 0]]), true, false⟩
def Tryd.ti150 : TI := Tryd.ti1
def Tryd.ti151 : TI := Tryd.ti1
def Tryd.ti152 : TI := ⟨5, 40, .arr 5 83, some (.w64 5 [0, 0, 0, 0, 0]), true, false⟩
def Tryd.ti153 : TI := Tryd.ti1
def Tryd.ti154 : TI := ⟨4, 40, .str [(0, 17), (1, 17), (2, 17), (3, 9)], some (.agg [.raw (.pointer none), .raw (.pointer none), .raw (.pointer none), .str []]), false, false⟩
def Tryd.ti155 : TI := Tryd.ti154
def Tryd.ti156 : TI := ⟨0, 0, .arr 0 16, some (.agg []), false, false⟩
def Tryd.ti157 : TI := ⟨0, 0, .str [(0, 156)], some (.agg []), false, false⟩
def Tryd.ti158 : TI := Tryd.ti157
def Tryd.ti159 : TI := Tryd.ti1
def Tryd.ti160 : TI := Tryd.ti5
def Tryd.ti161 : TI := Tryd.ti5
def Tryd.ti162 : TI := Tryd.ti1
def Tryd.ti163 : TI := ⟨1, 8, .ptr 5, some (.raw (.pointer none)), false, false⟩
def Tryd.ti164 : TI := Tryd.ti21
def Tryd.ti165 : TI := Tryd.ti21
def Tryd.ti166 : TI := ⟨11, 48, .str [(0, 12), (1, 12), (2, 70), (3, 160), (4, 5), (5, 5), (6, 161), (7, 162), (8, 163), (9, 164), (10, 165)], some (.agg [.u64 0, .u64 0, .u32 0, .u8 0, .u8 0, .u8 0, .u8 0, .raw .nilFunc, .raw (.pointer none), .int .i32 0, .int .i32 0]), false, false⟩
def Tryd.ti167 : TI := Tryd.ti166
def Tryd.tis : List (Option TI) := [none, some Tryd.ti1, some Tryd.ti2, some Tryd.ti3, some Tryd.ti4, some Tryd.ti5, some Tryd.ti6, some Tryd.ti7, some Tryd.ti8, some Tryd.ti9, some Tryd.ti10, some Tryd.ti11, some Tryd.ti12, some Tryd.ti13, some Tryd.ti14, some Tryd.ti15, some Tryd.ti16, some Tryd.ti17, some Tryd.ti18, some Tryd.ti19, none, some Tryd.ti21, some Tryd.ti22, some Tryd.ti23, some Tryd.ti24, some Tryd.ti25, some Tryd.ti26, some Tryd.ti27, none, some Tryd.ti29, some Tryd.ti30, some Tryd.ti31, some Tryd.ti32, some Tryd.ti33, some Tryd.ti34, some Tryd.ti35, some Tryd.ti36, some Tryd.ti37, some Tryd.ti38, none, some Tryd.ti40, none, some Tryd.ti42, some Tryd.ti43, some Tryd.ti44, some Tryd.ti45, some Tryd.ti46, some Tryd.ti47, some Tryd.ti48, some Tryd.ti49, some Tryd.ti50, some Tryd.ti51, none, some Tryd.ti53, some Tryd.ti54, some Tryd.ti55, none, some Tryd.ti57, none, some Tryd.ti59, some Tryd.ti60, some Tryd.ti61, some Tryd.ti62, some Tryd.ti63, some Tryd.ti64, some Tryd.ti65, some Tryd.ti66, some Tryd.ti67, some Tryd.ti68, some Tryd.ti69, some Tryd.ti70, none, some Tryd.ti72, none, some Tryd.ti74, some Tryd.ti75, some Tryd.ti76, some Tryd.ti77, some Tryd.ti78, some Tryd.ti79, some Tryd.ti80, some Tryd.ti81, some Tryd.ti82, some Tryd.ti83, some Tryd.ti84, some Tryd.ti85, some Tryd.ti86, some Tryd.ti87, some Tryd.ti88, some Tryd.ti89, some Tryd.ti90, some Tryd.ti91, none, some Tryd.ti93, none, some Tryd.ti95, some Tryd.ti96, some Tryd.ti97, some Tryd.ti98, some Tryd.ti99, some Tryd.ti100, some Tryd.ti101, some Tryd.ti102, some Tryd.ti103, some Tryd.ti104, some Tryd.ti105, some Tryd.ti106, some Tryd.ti107, some Tryd.ti108, some Tryd.ti109, some Tryd.ti110, some Tryd.ti111, some Tryd.ti112, none, some Tryd.ti114, some Tryd.ti115, none, some Tryd.ti117, some Tryd.ti118, some Tryd.ti119, some Tryd.ti120, some Tryd.ti121, some Tryd.ti122, some Tryd.ti123, some Tryd.ti124, some Tryd.ti125, some Tryd.ti126, none, some Tryd.ti128, some Tryd.ti129, none, some Tryd.ti131, none, some Tryd.ti133, some Tryd.ti134, none, some Tryd.ti136, some Tryd.ti137, some Tryd.ti138, some Tryd.ti139, some Tryd.ti140, some Tryd.ti141, some Tryd.ti142, some Tryd.ti143, some Tryd.ti144, some Tryd.ti145, some Tryd.ti146, some Tryd.ti147, some Tryd.ti148, some Tryd.ti149, some Tryd.ti150, some Tryd.ti151, some Tryd.ti152, some Tryd.ti153, some Tryd.ti154, some Tryd.ti155, some Tryd.ti156, some Tryd.ti157, some Tryd.ti158, some Tryd.ti159, some Tryd.ti160, some Tryd.ti161, some Tryd.ti162, some Tryd.ti163, some Tryd.ti164, some Tryd.ti165, some Tryd.ti166, some Tryd.ti167, none]
theorem Tryd.tisOk : ((List.range Tryd.tis.length).all fun t => match Tryd.tis[t]? with | some (some i) => tiOkB Tryd.prog t i | _ => true) = true := by kernel_rfl
def Tryd.gos : List Nat := [3, 4, 5, 6, 7, 8, 9, 10, 11, 12, 13, 14, 15, 16, 17, 18, 19, 20, 21, 22, 23, 24, 25, 26, 27, 28, 29, 30, 31, 32, 33, 34, 35, 36, 37, 38, 39, 40, 41, 42, 43, 44, 45, 46, 47, 48, 49, 50, 51, 52, 53, 54, 55, 56, 57, 58, 59, 60, 61, 62, 63, 64, 65, 66, 67, 69, 70, 71, 72, 73, 74, 75, 76, 77, 79, 80, 81, 82, 83]
theorem Tryd.gosOk : Tryd.gos.all (goFnB Tryd.prog) = true := by kernel_rfl
def Tryd.xk (f : Nat) : FK := bif f == 68 then FK.add64 else bif f == 78 then FK.sub64 else FK.go
theorem Tryd.addOk : ∀ f, Tryd.xk f = .add64 → IsExt Tryd.prog f add64Entry := by
 intro f h
 by_cases e68 : f = 68
 ·subst e68; exact fun args w => run_callFunc_extern Tryd.func68 (by kernel_rfl) (by kernel_rfl) (by kernel_rfl) (by kernel_rfl) args w
 by_cases e78 : f = 78
 ·subst e78; exact absurd h (by decide)
 have : Tryd.xk f = .go := by
  unfold Tryd.xk
  rw [show (f == 68) = false by simpa using e68]
  rw [show (f == 78) = false by simpa using e78]
  rfl
 rw [this] at h; exact absurd h (by decide)
theorem Tryd.subOk : ∀ f, Tryd.xk f = .sub64 → IsExt Tryd.prog f sub64Entry := by
 intro f h
 by_cases e68 : f = 68
 ·subst e68; exact absurd h (by decide)
 by_cases e78 : f = 78
 ·subst e78; exact fun args w => run_callFunc_extern Tryd.func78 (by kernel_rfl) (by kernel_rfl) (by kernel_rfl) (by kernel_rfl) args w
 have : Tryd.xk f = .go := by
  unfold Tryd.xk
  rw [show (f == 68) = false by simpa using e68]
  rw [show (f == 78) = false by simpa using e78]
  rfl
 rw [this] at h; exact absurd h (by decide)
def Tryd.gl (g : Nat) : Option (List AV) := bif g == 0 then some [.w64 4 [18446744073709551597, 18446744073709551615, 18446744073709551615, 9223372036854775807]] else bif g == 1 then some [.w32 8 Go.Bla.iv] else bif g == 2 then some [.n64 160 Go.Bla.ordersL] else none
noncomputable def Tryd.E : Env Tryd.prog where
 ty := fun t => oget Tryd.tis t
 g := Tryd.gl
 x := Tryd.xk
 go := fun f => Tryd.gos.contains f
 tyOk := fun t i h => tyOk_of Tryd.tisOk t i ((oget_eq _ _).symm.trans h)
 addOk := Tryd.addOk
 subOk := Tryd.subOk
 goOk := fun f h => goFn_of (List.all_eq_true.1 Tryd.gosOk f (by simpa using h))
 follows := by kernel_rfl
end Go.Proofs
namespace Go.Proofs.YtehaohfglolljaaDoor
open Go Go.V Go.Fld
noncomputable abbrev RR := ROps.nil Tryd.E
noncomputable abbrev CC := (Ctr.nil Tryd.E).C
set_option maxHeartbeats 0
set_option maxRecDepth 100000
theorem less_eq (a0 a1 a2 a3 b0 b1 b2 b3 : UInt64) (K : AV → Heap → Prop) : walk Tryd.E RR CC (fun _ _ => .unroll 6) 3 64 [.w64 4 [a0, a1, a2, a3], .w64 4 [b0, b1, b2, b3]] K = (
 let x0 : List UInt64 := [a0, a1, a2, a3]
 let x1 : UInt64 := (List.getD x0 0 0)
 let x2 : List UInt64 := [b0, b1, b2, b3]
 let x3 : UInt64 := (List.getD x2 0 0)
 let x4 : UInt64 := (borrow64 x1 x3 0)
 let x5 : List UInt64 := (List.set x0 0 ((x1 - x3) - 0))
 let x6 : UInt64 := (List.getD x5 1 0)
 let x7 : UInt64 := (List.getD x2 1 0)
 let x8 : UInt64 := (borrow64 x6 x7 x4)
 let x9 : List UInt64 := (List.set x5 1 ((x6 - x7) - x4))
 let x10 : UInt64 := (List.getD x9 2 0)
 let x11 : UInt64 := (List.getD x2 2 0)
 let x12 : UInt64 := (borrow64 x10 x11 x8)
 let x13 : List UInt64 := (List.set x9 2 ((x10 - x11) - x8))
 let x14 : UInt64 := (List.getD x13 3 0)
 let x15 : UInt64 := (List.getD x2 3 0)
 cnd (bit1 x4)
 (cnd (bit1 x8)
 (cnd (bit1 x12)
 (K (AV.tup [AV.w64 4 (List.set x13 3 ((x14 - x15) - x12)), AV.bool ((((UInt64.toNat (borrow64 x14 x15 x12)) : Nat) : Int) == 1)]) [])))) := by kernel_rfl
theorem fmul64_eq (x y : UInt64) (K : AV → Heap → Prop) : walk Tryd.E RR CC (fun _ _ => .unroll 6) 3 67 [.u64 x, .u64 y] K = (
 let x0 : UInt64 := (y &&& 4294967295)
 let x1 : UInt64 := (x &&& 4294967295)
 let x2 : UInt64 := (((shr64 x 32) * x0) + (shr64 (x1 * x0) 32))
 K (AV.tup [AV.u64 ((((shr64 x 32) * (shr64 y 32)) + (shr64 x2 32)) + (shr64 ((x2 &&& 4294967295) + (x1 * (shr64 y 32))) 32)), AV.u64 (x * y)]) []) := by kernel_rfl
theorem less_c (a b : List UInt64) : HCall Tryd.E 64 [.w64 4 a, .w64 4 b]
  (.ret (.tup [.w64 4 (fes (subT (nv a) (nv b))), .bool (ltN (nv a) (nv b))]) []) := by
 refine HCall.of_len rfl rfl fun hl => ?_
 have ha : a.length = 4 := hl _ (List.mem_cons_self ..)
 have hb : b.length = 4 := hl (.w64 4 b) (by simp)
 rw [eta4 ha, eta4 hb]
 generalize a.getD 0 0 = a0; generalize a.getD 1 0 = a1; generalize a.getD 2 0 = a2; generalize a.getD 3 0 = a3
 generalize b.getD 0 0 = b0; generalize b.getD 1 0 = b1; generalize b.getD 2 0 = b2; generalize b.getD 3 0 = b3
 refine HCall.of_walk (R := RR) (T := Ctr.nil _) (fun _ _ => .unroll 6) 3 rfl rfl ?_
 rw [less_eq]
 simp only [List.getD_cons_zero, List.getD_cons_succ, List.set_cons_zero, List.set_cons_succ, bit1, bit1_carry, bit1_borrow, cnd_true, has_ret, nv_mk, and_true]
 have z : (0 : UInt64).toNat = 0 := rfl
 have p0 := sub_part a0 b0 0 (by decide)
 have p1 := sub_part a1 b1 _ p0.2
 have p2 := sub_part a2 b2 _ p1.2
 have p3 := sub_part a3 b3 _ p2.2
 generalize borrow64 a0 b0 0 = c0 at *
 generalize borrow64 a1 b1 c0 = c1 at *
 generalize borrow64 a2 b2 c1 = c2 at *
 generalize borrow64 a3 b3 c2 = c3 at *
 have k : val (a0 - b0 - 0) (a1 - b1 - c0) (a2 - b2 - c1) (a3 - b3 - c2) + val b0 b1 b2 b3 = val a0 a1 a2 a3 + top * c3.toNat := by
  unfold val top
  omega
 have l := val_lt (a0 - b0 - 0) (a1 - b1 - c0) (a2 - b2 - c1) (a3 - b3 - c2)
 have la := val_lt a0 a1 a2 a3
 have lb := val_lt b0 b1 b2 b3
 rw [← fes_val]
 generalize val (a0 - b0 - 0) (a1 - b1 - c0) (a2 - b2 - c1) (a3 - b3 - c2) = r at *
 generalize val a0 a1 a2 a3 = x at *
 generalize val b0 b1 b2 b3 = y at *
 have c3' : c3.toNat = if x < y then 1 else 0 := by
  have := p3.2
  unfold top at *
  split <;> omega
 rw [c3'] at k ⊢
 rw [ltN_eq, subT]
 by_cases e : x < y
 ·simp only [e, if_true, decide_true] at k ⊢
  rw [show r = x + top - y by unfold top at *; omega]
  rfl
 ·simp only [e, if_false, decide_false] at k ⊢
  rw [show r = x - y by omega]
  rfl
theorem fmul64_c (x y : UInt64) : HCall Tryd.E 67 [.u64 x, .u64 y] (.ret (.tup [.u64 (mulhi x y), .u64 (x * y)]) []) := by
 refine HCall.of_walk (R := RR) (T := Ctr.nil _) (fun _ _ => .unroll 6) 3 rfl rfl ?_
 rw [fmul64_eq]
 simp only [has_ret, and_true]
 rw [mulhi_eq, ← mul64_hi]
noncomputable def TF1 : Ctr Tryd.E := ((Ctr.nil _).add 64 (fun
  | [.w64 4 a, .w64 4 b] => some (true, .ret (.tup [.w64 4 (fes (subT (nv a) (nv b))), .bool (ltN (nv a) (nv b))]) [])
  | _ => none) (by
   intro args pre out h _
   split at h
   ·simp only [Option.some.injEq, Prod.mk.injEq] at h
    obtain ⟨_, rfl⟩ := h
    exact less_c _ _
   ·simp at h)).add 67 (fun
  | [.u64 x, .u64 y] => some (true, .ret (.tup [.u64 (mulhi x y), .u64 (x * y)]) [])
  | _ => none) (by
   intro args pre out h _
   split at h
   ·simp only [Option.some.injEq, Prod.mk.injEq] at h
    obtain ⟨_, rfl⟩ := h
    exact fmul64_c _ _
   ·simp at h)
theorem below_eq (a : List UInt64) (K : AV → Heap → Prop) : walk Tryd.E RR TF1.C (fun _ _ => .unroll 6) 3 53 [.w64 4 a] K = (
 K (AV.bool (Fld.ltN (Fld.nv a) 57896044618658097711785492504343953926634992332820282019728792003956564819949)) []) := by kernel_rfl
theorem plus_eq (a0 a1 a2 a3 n : UInt64) (K : AV → Heap → Prop) : walk Tryd.E RR TF1.C (fun _ l => bif l == 1 then .unroll 3 else .unroll 6) 3 69 [.w64 4 [a0, a1, a2, a3], .u64 n] K = (
 let x0 : List UInt64 := [a0, a1, a2, a3]
 let x1 : UInt64 := (List.getD x0 0 0)
 let x2 : UInt64 := (carry64 x1 n 0)
 let x3 : List UInt64 := (List.set x0 0 ((x1 + n) + 0))
 let x4 : UInt64 := (List.getD x3 1 0)
 let x5 : UInt64 := (carry64 x4 0 x2)
 let x6 : List UInt64 := (List.set x3 1 ((x4 + 0) + x2))
 let x7 : UInt64 := (List.getD x6 2 0)
 let x8 : UInt64 := (carry64 x7 0 x5)
 let x9 : List UInt64 := (List.set x6 2 ((x7 + 0) + x5))
 let x10 : UInt64 := (List.getD x9 3 0)
 let x11 : UInt64 := (38 * (carry64 x10 0 x8))
 let x12 : List UInt64 := (List.set x9 3 ((x10 + 0) + x8))
 let x13 : UInt64 := (List.getD x12 0 0)
 let x14 : UInt64 := (carry64 x13 x11 0)
 let x15 : List UInt64 := (List.set x12 0 ((x13 + x11) + 0))
 let x16 : UInt64 := (List.getD x15 1 0)
 let x17 : UInt64 := (carry64 x16 0 x14)
 let x18 : List UInt64 := (List.set x15 1 ((x16 + 0) + x14))
 let x19 : UInt64 := (List.getD x18 2 0)
 let x20 : UInt64 := (carry64 x19 0 x17)
 let x21 : List UInt64 := (List.set x18 2 ((x19 + 0) + x17))
 let x22 : UInt64 := (List.getD x21 3 0)
 let x23 : UInt64 := (38 * (carry64 x22 0 x20))
 let x24 : List UInt64 := (List.set x21 3 ((x22 + 0) + x20))
 let x25 : UInt64 := (List.getD x24 0 0)
 let x26 : UInt64 := (carry64 x25 x23 0)
 let x27 : List UInt64 := (List.set x24 0 ((x25 + x23) + 0))
 let x28 : UInt64 := (List.getD x27 1 0)
 let x29 : UInt64 := (carry64 x28 0 x26)
 ite2 ((((UInt64.toNat n) : Nat) : Int) != 0)
 (cnd (bit1 x2)
 (cnd (bit1 x5)
 (cnd (bit1 x8)
 (ite2 ((((UInt64.toNat x11) : Nat) : Int) != 0)
 (cnd (bit1 x14)
 (cnd (bit1 x17)
 (cnd (bit1 x20)
 (ite2 ((((UInt64.toNat x23) : Nat) : Int) != 0)
 (cnd (bit1 x26)
 (cnd (bit1 x29)
 (cnd (bit1 (carry64 (List.getD (List.set x27 1 ((x28 + 0) + x26)) 2 0) 0 x29))
 (False))))
 (K (AV.w64 4 x24) [])))))
 (K (AV.w64 4 x12) [])))))
 (K (AV.w64 4 x0) [])) := by kernel_rfl
theorem below_c (a : List UInt64) : HCall Tryd.E 53 [.w64 4 a] (.ret (.bool (ltN (nv a) prm)) []) := by
 refine HCall.of_walk (R := RR) (T := TF1) (fun _ _ => .unroll 6) 3 rfl rfl ?_
 rw [below_eq]
 exact has_refl
theorem plus_round (a0 a1 a2 a3 n : UInt64) : ∃ b, b ≤ 1 ∧ (38 * carry64 (a3) 0 (carry64 a2 0 (carry64 a1 0 (carry64 a0 n 0)))).toNat = 38 * b ∧
  val (a0 + n + 0) (a1 + 0 + carry64 a0 n 0) (a2 + 0 + carry64 a1 0 (carry64 a0 n 0)) (a3 + 0 + carry64 a2 0 (carry64 a1 0 (carry64 a0 n 0))) + top * b = val a0 a1 a2 a3 + n.toNat := by
 obtain ⟨b, hb, hb1, hv⟩ := add_val a0 a1 a2 a3 n 0 0 0 0 (by decide)
 refine ⟨b, hb1, times38 _ hb hb1, ?_⟩
 rw [hv]
 have e : val n 0 0 0 = n.toNat := by simp [val]
 have e0 : (0 : UInt64).toNat = 0 := rfl
 omega
theorem plus_c (a : List UInt64) (n : UInt64) : HCall Tryd.E 69 [.w64 4 a, .u64 n] (.ret (.w64 4 (fes (plusN (nv a) n.toNat))) []) := by
 refine HCall.of_len rfl rfl fun hl => ?_
 have ha : a.length = 4 := hl _ (List.mem_cons_self ..)
 rw [eta4 ha]
 generalize a.getD 0 0 = a0; generalize a.getD 1 0 = a1; generalize a.getD 2 0 = a2; generalize a.getD 3 0 = a3
 refine HCall.of_walk (R := RR) (T := TF1) (fun _ l => bif l == 1 then .unroll 3 else .unroll 6) 3 rfl rfl ?_
 rw [plus_eq]
 simp only [List.getD_cons_zero, List.getD_cons_succ, List.set_cons_zero, List.set_cons_succ, bit1, bit1_carry, bit1_borrow, cnd_true, has_ret, nv_mk, and_true, ite2_eq]
 obtain ⟨b, hb, h38, hv⟩ := plus_round a0 a1 a2 a3 n
 have l0 := val_lt a0 a1 a2 a3
 have ln := lt64 n
 generalize 38 * carry64 a3 0 (carry64 a2 0 (carry64 a1 0 (carry64 a0 n 0))) = m at *
 generalize a0 + n + 0 = r0 at *
 generalize a1 + 0 + carry64 a0 n 0 = r1 at *
 generalize a2 + 0 + carry64 a1 0 (carry64 a0 n 0) = r2 at *
 generalize a3 + 0 + carry64 a2 0 (carry64 a1 0 (carry64 a0 n 0)) = r3 at *
 have l1 := val_lt r0 r1 r2 r3
 obtain ⟨b', hb', h38', hv'⟩ := plus_round r0 r1 r2 r3 m
 generalize 38 * carry64 r3 0 (carry64 r2 0 (carry64 r1 0 (carry64 r0 m 0))) = m' at *
 generalize r0 + m + 0 = s0 at *
 generalize r1 + 0 + carry64 r0 m 0 = s1 at *
 generalize r2 + 0 + carry64 r1 0 (carry64 r0 m 0) = s2 at *
 generalize r3 + 0 + carry64 r2 0 (carry64 r1 0 (carry64 r0 m 0)) = s3 at *
 have l2 := val_lt s0 s1 s2 s3
 rw [← fes_val, ← fes_val, ← fes_val]
 generalize val a0 a1 a2 a3 = x at *
 generalize val r0 r1 r2 r3 = y at *
 generalize val s0 s1 s2 s3 = z at *
 have g : top = 115792089237316195423570985008687907853269984665640564039457584007913129639936 := rfl
 have key : ∀ u : UInt64, (((u.toNat : Nat) : Int) != 0) = true ↔ u.toNat ≠ 0 := by intro u; simp
 have key' : ∀ u : UInt64, (((u.toNat : Nat) : Int) != 0) = false ↔ u.toNat = 0 := by intro u; simp
 simp only [key, key', AV.w64.injEq, true_and]
 unfold plusN
 rw [g] at hv hv' l0 l1 l2 ⊢
 have zb : b = 0 ∨ b = 1 := by omega
 have zb' : b' = 0 ∨ b' = 1 := by omega
 refine ⟨fun h0 => ⟨fun h1 => ⟨fun h2 => ?_, fun h2 => ?_⟩, fun h1 => ?_⟩, fun h0 => ?_⟩
 ·rcases zb with rfl | rfl <;> rcases zb' with rfl | rfl <;> omega
 ·rcases zb with rfl | rfl <;> rcases zb' with rfl | rfl <;> try omega
  rw [if_neg (by omega), show z = x + n.toNat - 115792089237316195423570985008687907853269984665640564039457584007913129639936 + 38 by omega]
 ·rcases zb with rfl | rfl <;> try omega
  rw [if_pos (by omega), show y = x + n.toNat by omega]
 ·rw [if_pos (by omega), show x + n.toNat = x by omega]
noncomputable def TF2 : Ctr Tryd.E := (TF1.add 53 (fun
  | [.w64 4 a] => some (true, .ret (.bool (ltN (nv a) prm)) [])
  | _ => none) (by
   intro args pre out h _
   split at h
   ·simp only [Option.some.injEq, Prod.mk.injEq] at h
    obtain ⟨_, rfl⟩ := h
    exact below_c _
   ·simp at h)).add 69 (fun
  | [.w64 4 a, .u64 n] => some (true, .ret (.w64 4 (fes (plusN (nv a) n.toNat))) [])
  | _ => none) (by
   intro args pre out h _
   split at h
   ·simp only [Option.some.injEq, Prod.mk.injEq] at h
    obtain ⟨_, rfl⟩ := h
    exact plus_c _ _
   ·simp at h)
theorem settled_eq (a : List UInt64) (K : AV → Heap → Prop) : walk Tryd.E RR TF2.C (fun _ _ => .unroll 3) 3 49 [.w64 4 a] K = (
 let x0 : Nat := 57896044618658097711785492504343953926634992332820282019728792003956564819949
 let x1 : List UInt64 := (Fld.fes (Fld.subT (Fld.nv a) x0))
 let x2 : List UInt64 := (Fld.fes (Fld.subT (Fld.nv x1) x0))
 ite2 (Bool.not (Fld.ltN (Fld.nv a) x0))
 (ite2 (Bool.not (Fld.ltN (Fld.nv x1) x0))
 (ite2 (Bool.not (Fld.ltN (Fld.nv x2) x0))
 (False)
 (K (AV.w64 4 x2) []))
 (K (AV.w64 4 x1) []))
 (K (AV.w64 4 a) [])) := by kernel_rfl
theorem subc_eq (a b : List UInt64) (K : AV → Heap → Prop) : walk Tryd.E RR TF2.C (fun _ _ => .unroll 6) 3 80 [.w64 4 a, .w64 4 b] K = (
 let x0 : List UInt64 := (Fld.fes (Fld.subT (Fld.nv a) (Fld.nv b)))
 let x1 : UInt64 := (List.getD x0 0 0)
 let x2 : UInt64 := 18446744073709551597
 let x3 : UInt64 := (carry64 x1 x2 0)
 let x4 : List UInt64 := (List.set x0 0 ((x1 + x2) + 0))
 let x5 : UInt64 := (List.getD x4 1 0)
 let x6 : UInt64 := 18446744073709551615
 let x7 : UInt64 := (carry64 x5 x6 x3)
 let x8 : List UInt64 := (List.set x4 1 ((x5 + x6) + x3))
 let x9 : UInt64 := (List.getD x8 2 0)
 let x10 : UInt64 := (carry64 x9 x6 x7)
 let x11 : List UInt64 := (List.set x8 2 ((x9 + x6) + x7))
 ite2 (Fld.ltN (Fld.nv a) (Fld.nv b))
 (cnd (bit1 x3)
 (cnd (bit1 x7)
 (cnd (bit1 x10)
 (K (AV.w64 4 (List.set x11 3 (((List.getD x11 3 0) + 9223372036854775807) + x10))) []))))
 (K (AV.w64 4 x0) [])) := by kernel_rfl
theorem settled_c (a : List UInt64) : HCall Tryd.E 49 [.w64 4 a] (.ret (.w64 4 (fes (nv a % prm))) []) := by
 refine HCall.of_len rfl rfl fun hl => ?_
 have ha : a.length = 4 := hl _ (List.mem_cons_self ..)
 refine HCall.of_walk (R := RR) (T := TF2) (fun _ _ => .unroll 3) 3 rfl rfl ?_
 rw [settled_eq]
 have hp : (57896044618658097711785492504343953926634992332820282019728792003956564819949 : Nat) = prm := rfl
 simp only [hp, ite2_eq, has_ret, ltN_eq, and_true, AV.w64.injEq, true_and, Bool.not_eq_true', Bool.not_eq_false', decide_eq_true_eq, decide_eq_false_iff_not]
 have l := nv_lt a
 have e := fes_nv ha
 generalize nv a = x at *
 have ep := top_prm
 have e2 : 38 < prm := by decide
 refine ⟨fun h1 => ?_, fun h1 => by rw [Nat.mod_eq_of_lt h1, e]⟩
 have s1 : subT x prm = x - prm := by unfold subT; rw [if_neg h1]
 have l1 : x - prm < top := by omega
 rw [s1, nv_fes l1]
 refine ⟨fun h2 => ?_, fun h2 => by rw [set_mod h1 h2]⟩
 have s2 : subT (x - prm) prm = x - prm - prm := by unfold subT; rw [if_neg h2]
 rw [s2, nv_fes (by omega)]
 refine ⟨fun h3 => absurd (set_two l) h3, fun h3 => by rw [set_mod2 l h1 h2]⟩
theorem sub_c (a b : List UInt64) (ha : nv a < prm) (hb : nv b < prm) : HCall Tryd.E 80 [.w64 4 a, .w64 4 b] (.ret (.w64 4 (fes ((nv a + prm - nv b) % prm))) []) := by
 refine HCall.of_walk (R := RR) (T := TF2) (fun _ _ => .unroll 6) 3 rfl rfl ?_
 rw [subc_eq]
 simp only [ite2_eq, ltN_eq, decide_eq_true_eq, decide_eq_false_iff_not]
 have ep := top_prm
 generalize nv a = x at *
 generalize nv b = y at *
 refine ⟨fun h => ?_, fun h => ?_⟩
 ·have s : subT x y = x + top - y := by unfold subT; rw [if_pos h]
  obtain ⟨d0, d1, d2, d3, hd⟩ := val_ex (n := x + top - y) (by omega)
  rw [s, hd, fes_val]
  simp only [List.getD_cons_zero, List.getD_cons_succ, List.set_cons_zero, List.set_cons_succ, bit1, bit1_carry, bit1_borrow, cnd_true, has_ret, and_true, AV.w64.injEq, true_and]
  obtain ⟨c, hc, hc1, hv⟩ := add_val d0 d1 d2 d3 18446744073709551597 18446744073709551615 18446744073709551615 9223372036854775807 0 (by decide)
  have e : val 18446744073709551597 18446744073709551615 18446744073709551615 9223372036854775807 = prm := by decide
  rw [e, ← hd] at hv
  have ll := val_lt (d0 + 18446744073709551597 + 0) (d1 + 18446744073709551615 + carry64 d0 18446744073709551597 0) (d2 + 18446744073709551615 + carry64 d1 18446744073709551615 (carry64 d0 18446744073709551597 0)) (d3 + 9223372036854775807 + carry64 d2 18446744073709551615 (carry64 d1 18446744073709551615 (carry64 d0 18446744073709551597 0)))
  rw [← fes_val, Nat.mod_eq_of_lt (by omega)]
  generalize val (d0 + 18446744073709551597 + 0) _ _ _ = r at *
  have z0 : (0 : UInt64).toNat = 0 := rfl
  have z : c = 0 ∨ c = 1 := by omega
  rcases z with rfl | rfl
  ·omega
  ·rw [show r = x + prm - y by omega]
 ·have s : subT x y = x - y := by unfold subT; rw [if_neg h]
  rw [s, show x + prm - y = (x - y) + prm by omega, Nat.add_mod_right, Nat.mod_eq_of_lt (by omega)]
  exact has_refl
noncomputable def TF3 : Ctr Tryd.E := (TF2.add 49 (fun
  | [.w64 4 a] => some (true, .ret (.w64 4 (fes (nv a % prm))) [])
  | _ => none) (by
   intro args pre out h _
   split at h
   ·simp only [Option.some.injEq, Prod.mk.injEq] at h
    obtain ⟨_, rfl⟩ := h
    exact settled_c _
   ·simp at h)).add 80 (fun
  | [.w64 4 a, .w64 4 b] => some (ltN (nv a) prm && ltN (nv b) prm, .ret (.w64 4 (fes ((nv a + prm - nv b) % prm))) [])
  | _ => none) (by
   intro args pre out h hp
   split at h
   ·simp only [Option.some.injEq, Prod.mk.injEq] at h
    obtain ⟨rfl, rfl⟩ := h
    simp only [Bool.and_eq_true, ltN_eq, decide_eq_true_eq] at hp
    exact sub_c _ _ hp.1 hp.2
   ·simp at h)
theorem fadd_eq (a0 a1 a2 a3 b0 b1 b2 b3 : UInt64) (K : AV → Heap → Prop) : walk Tryd.E RR TF3.C (fun _ _ => .unroll 6) 3 79 [.w64 4 [a0, a1, a2, a3], .w64 4 [b0, b1, b2, b3]] K = (
 let x0 : List UInt64 := [a0, a1, a2, a3]
 let x1 : UInt64 := (List.getD x0 0 0)
 let x2 : List UInt64 := [b0, b1, b2, b3]
 let x3 : UInt64 := (List.getD x2 0 0)
 let x4 : UInt64 := (carry64 x1 x3 0)
 let x5 : List UInt64 := (List.set x0 0 ((x1 + x3) + 0))
 let x6 : UInt64 := (List.getD x5 1 0)
 let x7 : UInt64 := (List.getD x2 1 0)
 let x8 : UInt64 := (carry64 x6 x7 x4)
 let x9 : List UInt64 := (List.set x5 1 ((x6 + x7) + x4))
 let x10 : UInt64 := (List.getD x9 2 0)
 let x11 : UInt64 := (List.getD x2 2 0)
 let x12 : UInt64 := (carry64 x10 x11 x8)
 let x13 : List UInt64 := (List.set x9 2 ((x10 + x11) + x8))
 let x14 : UInt64 := (List.getD x13 3 0)
 let x15 : UInt64 := (List.getD x2 3 0)
 cnd (bit1 x4)
 (cnd (bit1 x8)
 (cnd (bit1 x12)
 (K (AV.w64 4 (Fld.fes ((Fld.nv (Fld.fes (Fld.plusN (Fld.nv (List.set x13 3 ((x14 + x15) + x12))) (UInt64.toNat (38 * (carry64 x14 x15 x12)))))) % 57896044618658097711785492504343953926634992332820282019728792003956564819949))) [])))) := by kernel_rfl
theorem fadd_c (a b : List UInt64) : HCall Tryd.E 79 [.w64 4 a, .w64 4 b] (.ret (.w64 4 (fes ((nv a + nv b) % prm))) []) := by
 refine HCall.of_len rfl rfl fun hl => ?_
 have ha : a.length = 4 := hl _ (List.mem_cons_self ..)
 have hb : b.length = 4 := hl (.w64 4 b) (by simp)
 rw [eta4 ha, eta4 hb]
 generalize a.getD 0 0 = a0; generalize a.getD 1 0 = a1; generalize a.getD 2 0 = a2; generalize a.getD 3 0 = a3
 generalize b.getD 0 0 = b0; generalize b.getD 1 0 = b1; generalize b.getD 2 0 = b2; generalize b.getD 3 0 = b3
 refine HCall.of_walk (R := RR) (T := TF3) (fun _ _ => .unroll 6) 3 rfl rfl ?_
 rw [fadd_eq]
 simp only [List.getD_cons_zero, List.getD_cons_succ, List.set_cons_zero, List.set_cons_succ, bit1, bit1_carry, bit1_borrow, cnd_true, has_ret, and_true, AV.w64.injEq, true_and, nv_mk]
 obtain ⟨k, hk, hk1, hv⟩ := add_val a0 a1 a2 a3 b0 b1 b2 b3 0 (by decide)
 rw [times38 _ hk hk1]
 have z : (0 : UInt64).toNat = 0 := rfl
 have l := val_lt (a0 + b0 + 0) (a1 + b1 + carry64 a0 b0 0) (a2 + b2 + carry64 a1 b1 (carry64 a0 b0 0)) (a3 + b3 + carry64 a2 b2 (carry64 a1 b1 (carry64 a0 b0 0)))
 generalize val (a0 + b0 + 0) _ _ _ = r at *
 have hp : (57896044618658097711785492504343953926634992332820282019728792003956564819949 : Nat) = prm := rfl
 rw [hp, nv_fes (plus_lt l (by omega)), plus_mod, mod38, show r + top * k = val a0 a1 a2 a3 + val b0 b1 b2 b3 by omega]
theorem mul_walk (a0 a1 a2 a3 b0 b1 b2 b3 : UInt64) (K : AV → Heap → Prop) : walk Tryd.E RR TF3.C (fun _ _ => .unroll 6) 3 54 [.w64 4 [a0, a1, a2, a3], .w64 4 [b0, b1, b2, b3]] K =
  K (.w64 4 (fes (nv (fes (plusN (nv (mulSpec a0 a1 a2 a3 b0 b1 b2 b3).1) (mulSpec a0 a1 a2 a3 b0 b1 b2 b3).2.toNat)) % prm))) [] := by kernel_rfl
theorem mul_c (a b : List UInt64) : HCall Tryd.E 54 [.w64 4 a, .w64 4 b] (.ret (.w64 4 (fes (nv a * nv b % prm))) []) := by
 refine HCall.of_len rfl rfl fun hl => ?_
 have ha : a.length = 4 := hl _ (List.mem_cons_self ..)
 have hb : b.length = 4 := hl (.w64 4 b) (by simp)
 rw [eta4 ha, eta4 hb]
 generalize a.getD 0 0 = a0; generalize a.getD 1 0 = a1; generalize a.getD 2 0 = a2; generalize a.getD 3 0 = a3
 generalize b.getD 0 0 = b0; generalize b.getD 1 0 = b1; generalize b.getD 2 0 = b2; generalize b.getD 3 0 = b3
 refine HCall.of_walk (R := RR) (T := TF3) (fun _ _ => .unroll 6) 3 rfl rfl ?_
 rw [mul_walk]
 refine has_ret.2 ⟨?_, rfl⟩
 obtain ⟨k1, k2⟩ := mulSpec_ok a0 a1 a2 a3 b0 b1 b2 b3
 have l := nv_lt (mulSpec a0 a1 a2 a3 b0 b1 b2 b3).1
 rw [nv_fes (plus_lt l (by omega)), plus_mod, k2, nv_mk, nv_mk]
noncomputable def TF4 : Ctr Tryd.E := (TF3.add 79 (fun
  | [.w64 4 a, .w64 4 b] => some (true, .ret (.w64 4 (fes ((nv a + nv b) % prm))) [])
  | _ => none) (by
   intro args pre out h hp
   split at h
   ·simp only [Option.some.injEq, Prod.mk.injEq] at h
    obtain ⟨rfl, rfl⟩ := h
    exact fadd_c _ _
   ·simp at h)).add 54 (fun
  | [.w64 4 a, .w64 4 b] => some (true, .ret (.w64 4 (fes (nv a * nv b % prm))) [])
  | _ => none) (by
   intro args pre out h hp
   split at h
   ·simp only [Option.some.injEq, Prod.mk.injEq] at h
    obtain ⟨rfl, rfl⟩ := h
    exact mul_c _ _
   ·simp at h)
theorem Add_w (a b : List UInt64) (K : AV → Heap → Prop) : walk Tryd.E RR TF4.C (fun _ _ => .unroll 6) 3 65 [.w64 4 a, .w64 4 b] K =
  ite2 (!ltN (nv a) prm) (K (.tup [.w64 4 [0, 0, 0, 0], .int .i64 6]) []) (ite2 (!ltN (nv b) prm) (K (.tup [.w64 4 [0, 0, 0, 0], .int .i64 6]) []) (K (.tup [.w64 4 (fes ((nv a + nv b) % prm)), .int .i64 0]) [])) := by kernel_rfl
theorem Add_c (a b : List UInt64) (ha : nv a < prm) (hb : nv b < prm) : HCall Tryd.E 65 [.w64 4 a, .w64 4 b] (.ret (.tup [.w64 4 (fes ((nv a + nv b) % prm)), .int .i64 0]) []) := by
 refine HCall.of_walk (R := RR) (T := TF4) (fun _ _ => .unroll 6) 3 rfl rfl ?_
 rw [Add_w, ltN_eq, ltN_eq, decide_eq_true ha, decide_eq_true hb]
 exact ⟨rfl, rfl⟩
theorem Mul_w (a b : List UInt64) (K : AV → Heap → Prop) : walk Tryd.E RR TF4.C (fun _ _ => .unroll 6) 3 55 [.w64 4 a, .w64 4 b] K =
  ite2 (!ltN (nv a) prm) (K (.tup [.w64 4 [0, 0, 0, 0], .int .i64 6]) []) (ite2 (!ltN (nv b) prm) (K (.tup [.w64 4 [0, 0, 0, 0], .int .i64 6]) []) (K (.tup [.w64 4 (fes (nv a * nv b % prm)), .int .i64 0]) [])) := by kernel_rfl
theorem Mul_c (a b : List UInt64) (ha : nv a < prm) (hb : nv b < prm) : HCall Tryd.E 55 [.w64 4 a, .w64 4 b] (.ret (.tup [.w64 4 (fes (nv a * nv b % prm)), .int .i64 0]) []) := by
 refine HCall.of_walk (R := RR) (T := TF4) (fun _ _ => .unroll 6) 3 rfl rfl ?_
 rw [Mul_w, ltN_eq, ltN_eq, decide_eq_true ha, decide_eq_true hb]
 exact ⟨rfl, rfl⟩
theorem Sub_w (a b : List UInt64) (K : AV → Heap → Prop) : walk Tryd.E RR TF4.C (fun _ _ => .unroll 6) 3 66 [.w64 4 a, .w64 4 b] K =
  ite2 (!ltN (nv a) prm) (K (.tup [.w64 4 [0, 0, 0, 0], .int .i64 6]) []) (ite2 (!ltN (nv b) prm) (K (.tup [.w64 4 [0, 0, 0, 0], .int .i64 6]) []) (cnd (ltN (nv a) prm && ltN (nv b) prm) (K (.tup [.w64 4 (fes ((nv a + prm - nv b) % prm)), .int .i64 0]) []))) := by kernel_rfl
theorem Sub_c (a b : List UInt64) (ha : nv a < prm) (hb : nv b < prm) : HCall Tryd.E 66 [.w64 4 a, .w64 4 b] (.ret (.tup [.w64 4 (fes ((nv a + prm - nv b) % prm)), .int .i64 0]) []) := by
 refine HCall.of_walk (R := RR) (T := TF4) (fun _ _ => .unroll 6) 3 rfl rfl ?_
 rw [Sub_w, ltN_eq, ltN_eq, decide_eq_true ha, decide_eq_true hb]
 exact ⟨rfl, rfl⟩
theorem Inv_w (a : List UInt64) (K : AV → Heap → Prop) : walk Tryd.E RR TF4.C (fun _ _ => .unroll 257) 3 38 [.w64 4 a] K =
  ite2 (!ltN (nv a) prm) (K (.tup [.w64 4 [0, 0, 0, 0], .int .i64 6]) []) (K (.tup [.w64 4 (invS a 255 [1, 0, 0, 0]), .int .i64 0]) []) := by kernel_rfl
theorem Inv_c (a : List UInt64) (ha : nv a < prm) : HCall Tryd.E 38 [.w64 4 a] (.ret (.tup [.w64 4 (fes (nv a ^ (prm - 2) % prm)), .int .i64 0]) []) := by
 refine HCall.of_walk (R := RR) (T := TF4) (fun _ _ => .unroll 257) 3 rfl rfl ?_
 rw [Inv_w, ltN_eq, decide_eq_true ha, invS_eq 255 _ (Nat.le_refl _) (by
  rw [show (prm - 2) / 2 ^ 255 = 0 by decide, Nat.pow_zero, fes_eq]; rfl)]
 exact ⟨rfl, rfl⟩
theorem From_w (b : List UInt8) (K : AV → Heap → Prop) : walk Tryd.E RR TF4.C (fun _ _ => .unroll 33) 3 35 [.b8 32 b] K =
  K (.w64 4 (fes (nv [(orB (orB (orB (orB (orB (orB (orB (orB 0 (b.getD 0 0) 0) (b.getD 1 0) 8) (b.getD 2 0) 16) (b.getD 3 0) 24) (b.getD 4 0) 32) (b.getD 5 0) 40) (b.getD 6 0) 48) (b.getD 7 0) 56), (orB (orB (orB (orB (orB (orB (orB (orB 0 (b.getD 8 0) 0) (b.getD 9 0) 8) (b.getD 10 0) 16) (b.getD 11 0) 24) (b.getD 12 0) 32) (b.getD 13 0) 40) (b.getD 14 0) 48) (b.getD 15 0) 56), (orB (orB (orB (orB (orB (orB (orB (orB 0 (b.getD 16 0) 0) (b.getD 17 0) 8) (b.getD 18 0) 16) (b.getD 19 0) 24) (b.getD 20 0) 32) (b.getD 21 0) 40) (b.getD 22 0) 48) (b.getD 23 0) 56), ((orB (orB (orB (orB (orB (orB (orB (orB 0 (b.getD 24 0) 0) (b.getD 25 0) 8) (b.getD 26 0) 16) (b.getD 27 0) 24) (b.getD 28 0) 32) (b.getD 29 0) 40) (b.getD 30 0) 48) (b.getD 31 0) 56) &&& 9223372036854775807)] % prm))) [] := by kernel_rfl
theorem From_c (b : List UInt8) : HCall Tryd.E 35 [.b8 32 b] (.ret (.w64 4 (fes (fromN b))) []) := by
 refine HCall.of_len rfl rfl fun hl => ?_
 have hb : b.length = 32 := hl _ (List.mem_cons_self ..)
 refine HCall.of_walk (R := RR) (T := TF4) (fun _ _ => .unroll 33) 3 rfl rfl ?_
 rw [From_w, nv_mk, from_law hb]
 exact ⟨rfl, rfl⟩
theorem Bytes_w (a0 a1 a2 a3 : UInt64) (K : AV → Heap → Prop) : walk Tryd.E RR TF4.C (fun _ _ => .unroll 33) 3 39 [.w64 4 [a0, a1, a2, a3]] K =
  ite2 (!ltN (nv [a0, a1, a2, a3]) prm) (K (.tup [.b8 32 (List.replicate 32 0), .int .i64 6]) []) (K (.tup [.b8 32 [(shr64 a0 0).toUInt8, (shr64 a0 8).toUInt8, (shr64 a0 16).toUInt8, (shr64 a0 24).toUInt8, (shr64 a0 32).toUInt8, (shr64 a0 40).toUInt8, (shr64 a0 48).toUInt8, (shr64 a0 56).toUInt8, (shr64 a1 0).toUInt8, (shr64 a1 8).toUInt8, (shr64 a1 16).toUInt8, (shr64 a1 24).toUInt8, (shr64 a1 32).toUInt8, (shr64 a1 40).toUInt8, (shr64 a1 48).toUInt8, (shr64 a1 56).toUInt8, (shr64 a2 0).toUInt8, (shr64 a2 8).toUInt8, (shr64 a2 16).toUInt8, (shr64 a2 24).toUInt8, (shr64 a2 32).toUInt8, (shr64 a2 40).toUInt8, (shr64 a2 48).toUInt8, (shr64 a2 56).toUInt8, (shr64 a3 0).toUInt8, (shr64 a3 8).toUInt8, (shr64 a3 16).toUInt8, (shr64 a3 24).toUInt8, (shr64 a3 32).toUInt8, (shr64 a3 40).toUInt8, (shr64 a3 48).toUInt8, (shr64 a3 56).toUInt8], .int .i64 0]) []) := by kernel_rfl
theorem Bytes_c (a : List UInt64) (ha : nv a < prm) : HCall Tryd.E 39 [.w64 4 a] (.ret (.tup [.b8 32 (bytesS (nv a)), .int .i64 0]) []) := by
 refine HCall.of_len rfl rfl fun hl => ?_
 have hl4 : a.length = 4 := hl _ (List.mem_cons_self ..)
 rw [eta4 hl4] at ha ⊢
 generalize a.getD 0 0 = a0 at *; generalize a.getD 1 0 = a1 at *; generalize a.getD 2 0 = a2 at *; generalize a.getD 3 0 = a3 at *
 refine HCall.of_walk (R := RR) (T := TF4) (fun _ _ => .unroll 33) 3 rfl rfl ?_
 rw [Bytes_w, ltN_eq, decide_eq_true ha, ← bytes_law, nv_mk, bytesS_eq]
 exact ⟨rfl, rfl⟩
noncomputable def T5 : Ctr Tryd.E := ((((((TF4.add 65 (fun
  | [.w64 4 a, .w64 4 b] => some (ltN (nv a) prm && ltN (nv b) prm, .ret (.tup [.w64 4 (fes ((nv a + nv b) % prm)), .int .i64 0]) [])
  | _ => none) (by
   intro args pre out h hp
   split at h
   ·simp only [Option.some.injEq, Prod.mk.injEq] at h
    obtain ⟨rfl, rfl⟩ := h
    simp only [Bool.and_eq_true, ltN_eq, decide_eq_true_eq] at hp
    exact Add_c _ _ hp.1 hp.2
   ·simp at h)).add 55 (fun
  | [.w64 4 a, .w64 4 b] => some (ltN (nv a) prm && ltN (nv b) prm, .ret (.tup [.w64 4 (fes (nv a * nv b % prm)), .int .i64 0]) [])
  | _ => none) (by
   intro args pre out h hp
   split at h
   ·simp only [Option.some.injEq, Prod.mk.injEq] at h
    obtain ⟨rfl, rfl⟩ := h
    simp only [Bool.and_eq_true, ltN_eq, decide_eq_true_eq] at hp
    exact Mul_c _ _ hp.1 hp.2
   ·simp at h)).add 66 (fun
  | [.w64 4 a, .w64 4 b] => some (ltN (nv a) prm && ltN (nv b) prm, .ret (.tup [.w64 4 (fes ((nv a + prm - nv b) % prm)), .int .i64 0]) [])
  | _ => none) (by
   intro args pre out h hp
   split at h
   ·simp only [Option.some.injEq, Prod.mk.injEq] at h
    obtain ⟨rfl, rfl⟩ := h
    simp only [Bool.and_eq_true, ltN_eq, decide_eq_true_eq] at hp
    exact Sub_c _ _ hp.1 hp.2
   ·simp at h)).add 38 (fun
  | [.w64 4 a] => some (ltN (nv a) prm, .ret (.tup [.w64 4 (fes (nv a ^ (prm - 2) % prm)), .int .i64 0]) [])
  | _ => none) (by
   intro args pre out h hp
   split at h
   ·simp only [Option.some.injEq, Prod.mk.injEq] at h
    obtain ⟨rfl, rfl⟩ := h
    simp only [ltN_eq, decide_eq_true_eq] at hp
    exact Inv_c _ hp
   ·simp at h)).add 35 (fun
  | [.b8 32 b] => some (true, .ret (.w64 4 (fes (fromN b))) [])
  | _ => none) (by
   intro args pre out h hp
   split at h
   ·simp only [Option.some.injEq, Prod.mk.injEq] at h
    obtain ⟨rfl, rfl⟩ := h
    exact From_c _
   ·simp at h)).add 39 (fun
  | [.w64 4 a] => some (ltN (nv a) prm, .ret (.tup [.b8 32 (bytesS (nv a)), .int .i64 0]) [])
  | _ => none) (by
   intro args pre out h hp
   split at h
   ·simp only [Option.some.injEq, Prod.mk.injEq] at h
    obtain ⟨rfl, rfl⟩ := h
    simp only [ltN_eq, decide_eq_true_eq] at hp
    exact Bytes_c _ hp
   ·simp at h))
noncomputable abbrev T6 : Ctr Tryd.E := T5
theorem ladd_eq (a b : List UInt64) (K : AV → Heap → Prop) : walk Tryd.E RR T6.C (fun _ _ => .unroll 6) 3 50 [.w64 4 a, .w64 4 b] K = (
 let x0 : Nat := 57896044618658097711785492504343953926634992332820282019728792003956564819949
 cnd ((Fld.ltN (Fld.nv a) x0) && (Fld.ltN (Fld.nv b) x0))
 (K (AV.w64 4 (Fld.fes (((Fld.nv a) + (Fld.nv b)) % x0))) [])) := by kernel_rfl
theorem lsub_eq (a b : List UInt64) (K : AV → Heap → Prop) : walk Tryd.E RR T6.C (fun _ _ => .unroll 6) 3 51 [.w64 4 a, .w64 4 b] K = (
 let x0 : Nat := 57896044618658097711785492504343953926634992332820282019728792003956564819949
 cnd ((Fld.ltN (Fld.nv a) x0) && (Fld.ltN (Fld.nv b) x0))
 (K (AV.w64 4 (Fld.fes ((((Fld.nv a) + x0) - (Fld.nv b)) % x0))) [])) := by kernel_rfl
theorem lmul_eq (a b : List UInt64) (K : AV → Heap → Prop) : walk Tryd.E RR T6.C (fun _ _ => .unroll 6) 3 40 [.w64 4 a, .w64 4 b] K = (
 let x0 : Nat := 57896044618658097711785492504343953926634992332820282019728792003956564819949
 cnd ((Fld.ltN (Fld.nv a) x0) && (Fld.ltN (Fld.nv b) x0))
 (K (AV.w64 4 (Fld.fes (((Fld.nv a) * (Fld.nv b)) % x0))) [])) := by kernel_rfl
theorem lsquare_eq (a : List UInt64) (K : AV → Heap → Prop) : walk Tryd.E RR T6.C (fun _ _ => .unroll 6) 4 52 [.w64 4 a] K = (
 let x0 : Nat := 57896044618658097711785492504343953926634992332820282019728792003956564819949
 let x1 : Bool := (Fld.ltN (Fld.nv a) x0)
 cnd (x1 && x1)
 (K (AV.w64 4 (Fld.fes (((Fld.nv a) * (Fld.nv a)) % x0))) [])) := by kernel_rfl
theorem clamp_eq (k : List UInt8) (K : AV → Heap → Prop) : walk Tryd.E RR T6.C (fun _ _ => .unroll 6) 4 34 [.b8 32 k] K = (
 let x0 : List UInt8 := (List.set k 0 ((List.getD k 0 0) &&& 248))
 K (AV.b8 32 (List.set x0 31 (((List.getD x0 31 0) &&& 127) ||| 64))) []) := by kernel_rfl
theorem hprm : (57896044618658097711785492504343953926634992332820282019728792003956564819949 : Nat) = prm := rfl
theorem HCall.of_agg {P : Program} {G : Env P} {f : FuncId} {a b c d : List UInt64} {r : List AV} {out : Out} (hp : pureL (.agg [.agg [.w64 4 a, .w64 4 b], .agg [.w64 4 c, .w64 4 d]] :: r) = true) (ho : out.okB = true)
  (h : a.length = 4 → b.length = 4 → c.length = 4 → d.length = 4 → HCall G f (.agg [.agg [.w64 4 a, .w64 4 b], .agg [.w64 4 c, .w64 4 d]] :: r) out) : HCall G f (.agg [.agg [.w64 4 a, .w64 4 b], .agg [.w64 4 c, .w64 4 d]] :: r) out := by
 refine ⟨hp, ho, fun ρ I w vs c' rv => ?_⟩
 obtain ⟨x, xs, _, h1, _⟩ := RV_cons.1 rv
 obtain ⟨cs, _, h2⟩ := rel_agg.1 h1
 obtain ⟨y1, z1, _, k1, h3⟩ := RL_cons.1 h2
 obtain ⟨y2, z2, _, k2, h4⟩ := RL_cons.1 h3
 obtain ⟨_, _, _, l1, k1⟩ := RL_cons.1 (show RL ρ I w _ y1 from k1)
 obtain ⟨_, _, _, l2, k1⟩ := RL_cons.1 k1
 obtain ⟨_, _, _, l3, k2⟩ := RL_cons.1 (show RL ρ I w _ y2 from k2)
 obtain ⟨_, _, _, l4, k2⟩ := RL_cons.1 k2
 exact (h l1.2 l2.2 l3.2 l4.2).call ρ I w vs c' rv
theorem ladd_c (a b : List UInt64) (ha : nv a < prm) (hb : nv b < prm) : HCall Tryd.E 50 [.w64 4 a, .w64 4 b] (.ret (.w64 4 (fes (addm (nv a) (nv b)))) []) := by
 refine HCall.of_walk (R := RR) (T := T6) (fun _ _ => .unroll 6) 3 rfl rfl ?_
 rw [ladd_eq]
 simp only [hprm, ltN_eq, decide_eq_true ha, decide_eq_true hb, Bool.and_self, cnd_true]
 exact ⟨rfl, rfl⟩
theorem lsub_c (a b : List UInt64) (ha : nv a < prm) (hb : nv b < prm) : HCall Tryd.E 51 [.w64 4 a, .w64 4 b] (.ret (.w64 4 (fes (subm (nv a) (nv b)))) []) := by
 refine HCall.of_walk (R := RR) (T := T6) (fun _ _ => .unroll 6) 3 rfl rfl ?_
 rw [lsub_eq]
 simp only [hprm, ltN_eq, decide_eq_true ha, decide_eq_true hb, Bool.and_self, cnd_true]
 exact ⟨rfl, rfl⟩
theorem lmul_c (a b : List UInt64) (ha : nv a < prm) (hb : nv b < prm) : HCall Tryd.E 40 [.w64 4 a, .w64 4 b] (.ret (.w64 4 (fes (mulm (nv a) (nv b)))) []) := by
 refine HCall.of_walk (R := RR) (T := T6) (fun _ _ => .unroll 6) 3 rfl rfl ?_
 rw [lmul_eq]
 simp only [hprm, ltN_eq, decide_eq_true ha, decide_eq_true hb, Bool.and_self, cnd_true]
 exact ⟨rfl, rfl⟩
theorem lsquare_c (a : List UInt64) (ha : nv a < prm) : HCall Tryd.E 52 [.w64 4 a] (.ret (.w64 4 (fes (mulm (nv a) (nv a)))) []) := by
 refine HCall.of_walk (R := RR) (T := T6) (fun _ _ => .unroll 6) 4 rfl rfl ?_
 rw [lsquare_eq]
 simp only [hprm, ltN_eq, decide_eq_true ha, Bool.and_self, cnd_true]
 exact ⟨rfl, rfl⟩
theorem clamp_c (k : List UInt8) : HCall Tryd.E 34 [.b8 32 k] (.ret (.b8 32 (clampB k)) []) := by
 refine HCall.of_walk (R := RR) (T := T6) (fun _ _ => .unroll 6) 4 rfl rfl ?_
 rw [clamp_eq]
 refine ⟨?_, rfl⟩
 simp only [clampB, List.getD_eq_getElem?_getD, List.getElem?_set]
 simp
def sw (m a b : UInt64) : UInt64 := a ^^^ ((0 - m) &&& (a ^^^ b))
def sv (m a b : UInt64) : UInt64 := b ^^^ ((0 - m) &&& (a ^^^ b))
theorem swapped_w (a0 a1 a2 a3 b0 b1 b2 b3 c0 c1 c2 c3 d0 d1 d2 d3 m : UInt64) (K : AV → Heap → Prop) : walk Tryd.E RR T6.C (fun _ _ => .unroll 6) 3 36 [.agg [.agg [.w64 4 [a0, a1, a2, a3], .w64 4 [b0, b1, b2, b3]], .agg [.w64 4 [c0, c1, c2, c3], .w64 4 [d0, d1, d2, d3]]], .u64 m] K =
  K (.agg [.agg [.w64 4 [sw m a0 b0, sw m a1 b1, sw m a2 b2, sw m a3 b3], .w64 4 [sv m a0 b0, sv m a1 b1, sv m a2 b2, sv m a3 b3]], .agg [.w64 4 [sw m c0 d0, sw m c1 d1, sw m c2 d2, sw m c3 d3], .w64 4 [sv m c0 d0, sv m c1 d1, sv m c2 d2, sv m c3 d3]]]) [] := by kernel_rfl
theorem sw0 (a b : UInt64) : sw 0 a b = a := by simp [sw]
theorem sv0 (a b : UInt64) : sv 0 a b = b := by simp [sv]
theorem sw1 (a b : UInt64) : sw 1 a b = b := by
 have : (0 : UInt64) - 1 = -1 := by decide
 simp [sw, this, ← UInt64.xor_assoc]
theorem sv1 (a b : UInt64) : sv 1 a b = a := by
 have : (0 : UInt64) - 1 = -1 := by decide
 have h : b ^^^ (a ^^^ b) = a := by rw [UInt64.xor_comm a b, ← UInt64.xor_assoc]; simp
 simp [sv, this, h]
theorem swapped_c (a b c d : List UInt64) (m : UInt64) (hm : m = 0 ∨ m = 1) : HCall Tryd.E 36 [.agg [.agg [.w64 4 a, .w64 4 b], .agg [.w64 4 c, .w64 4 d]], .u64 m]
  (.ret (.agg [.agg [.w64 4 (cond (m == 1) b a), .w64 4 (cond (m == 1) a b)], .agg [.w64 4 (cond (m == 1) d c), .w64 4 (cond (m == 1) c d)]]) []) := by
 refine HCall.of_agg rfl rfl fun ha hb hc hd => ?_
 rw [eta4 ha, eta4 hb, eta4 hc, eta4 hd]
 refine HCall.of_walk (R := RR) (T := T6) (fun _ _ => .unroll 6) 3 rfl rfl ?_
 rw [swapped_w]
 rcases hm with rfl | rfl
 ·simp only [sw0, sv0]; exact ⟨rfl, rfl⟩
 ·simp only [sw1, sv1]; exact ⟨rfl, rfl⟩
noncomputable def T7 : Ctr Tryd.E := (((((T6.add 50 (fun
  | [.w64 4 a, .w64 4 b] => some (ltN (nv a) prm && ltN (nv b) prm, .ret (.w64 4 (fes (addm (nv a) (nv b)))) [])
  | _ => none) (by
   intro args pre out h hp
   split at h
   ·simp only [Option.some.injEq, Prod.mk.injEq] at h
    obtain ⟨rfl, rfl⟩ := h
    simp only [Bool.and_eq_true, ltN_eq, decide_eq_true_eq] at hp
    exact ladd_c _ _ hp.1 hp.2
   ·simp at h)).add 51 (fun
  | [.w64 4 a, .w64 4 b] => some (ltN (nv a) prm && ltN (nv b) prm, .ret (.w64 4 (fes (subm (nv a) (nv b)))) [])
  | _ => none) (by
   intro args pre out h hp
   split at h
   ·simp only [Option.some.injEq, Prod.mk.injEq] at h
    obtain ⟨rfl, rfl⟩ := h
    simp only [Bool.and_eq_true, ltN_eq, decide_eq_true_eq] at hp
    exact lsub_c _ _ hp.1 hp.2
   ·simp at h)).add 40 (fun
  | [.w64 4 a, .w64 4 b] => some (ltN (nv a) prm && ltN (nv b) prm, .ret (.w64 4 (fes (mulm (nv a) (nv b)))) [])
  | _ => none) (by
   intro args pre out h hp
   split at h
   ·simp only [Option.some.injEq, Prod.mk.injEq] at h
    obtain ⟨rfl, rfl⟩ := h
    simp only [Bool.and_eq_true, ltN_eq, decide_eq_true_eq] at hp
    exact lmul_c _ _ hp.1 hp.2
   ·simp at h)).add 52 (fun
  | [.w64 4 a] => some (ltN (nv a) prm, .ret (.w64 4 (fes (mulm (nv a) (nv a)))) [])
  | _ => none) (by
   intro args pre out h hp
   split at h
   ·simp only [Option.some.injEq, Prod.mk.injEq] at h
    obtain ⟨rfl, rfl⟩ := h
    simp only [ltN_eq, decide_eq_true_eq] at hp
    exact lsquare_c _ hp
   ·simp at h)).add 34 (fun
  | [.b8 32 k] => some (true, .ret (.b8 32 (clampB k)) [])
  | _ => none) (by
   intro args pre out h hp
   split at h
   ·simp only [Option.some.injEq, Prod.mk.injEq] at h
    obtain ⟨rfl, rfl⟩ := h
    exact clamp_c _
   ·simp at h)).add 36 (fun
  | [.agg [.agg [.w64 4 a, .w64 4 b], .agg [.w64 4 c, .w64 4 d]], .u64 m] => some (m == 0 || m == 1, .ret (.agg [.agg [.w64 4 (cond (m == 1) b a), .w64 4 (cond (m == 1) a b)], .agg [.w64 4 (cond (m == 1) d c), .w64 4 (cond (m == 1) c d)]]) [])
  | _ => none) (by
   intro args pre out h hp
   split at h
   ·simp only [Option.some.injEq, Prod.mk.injEq] at h
    obtain ⟨rfl, rfl⟩ := h
    simp only [Bool.or_eq_true, beq_iff_eq] at hp
    exact swapped_c _ _ _ _ _ hp
   ·simp at h)
theorem step_eq (p0 p1 q0 q1 u : Nat) (K : AV → Heap → Prop) : walk Tryd.E RR T7.C (fun _ _ => .unroll 6) 5 37 [.agg [.agg [.w64 4 (fes p0), .w64 4 (fes p1)], .agg [.w64 4 (fes q0), .w64 4 (fes q1)]], .w64 4 (fes u)] K = (
 let x0 : Nat := (Fld.nv (Fld.fes p0))
 let x1 : Nat := 57896044618658097711785492504343953926634992332820282019728792003956564819949
 let x2 : Nat := (Fld.nv (Fld.fes q0))
 let x3 : Bool := (Fld.ltN x0 x1) && (Fld.ltN x2 x1)
 let x4 : Nat := (Fld.nv (Fld.fes p1))
 let x5 : Nat := (Fld.nv (Fld.fes q1))
 let x6 : Bool := (Fld.ltN x4 x1) && (Fld.ltN x5 x1)
 let x7 : Nat := (Fld.nv (Fld.fes (Fld.addm x0 x2)))
 let x8 : Bool := Fld.ltN x7 x1
 let x9 : Nat := (Fld.nv (Fld.fes (Fld.subm x0 x2)))
 let x10 : Bool := Fld.ltN x9 x1
 let x11 : Nat := (Fld.nv (Fld.fes (Fld.mulm x7 x7)))
 let x12 : Bool := (Fld.ltN x11 x1)
 let x13 : Nat := (Fld.nv (Fld.fes (Fld.mulm x9 x9)))
 let x14 : Bool := x12 && (Fld.ltN x13 x1)
 let x15 : Nat := (Fld.nv (Fld.fes (Fld.subm x4 x5)))
 let x16 : Nat := (Fld.nv (Fld.fes (Fld.addm x4 x5)))
 let x17 : Nat := (Fld.nv (Fld.fes (Fld.mulm x15 x7)))
 let x18 : Nat := (Fld.nv (Fld.fes (Fld.mulm x16 x9)))
 let x19 : Bool := (Fld.ltN x17 x1) && (Fld.ltN x18 x1)
 let x20 : Nat := (Fld.nv (Fld.fes (Fld.addm x17 x18)))
 let x21 : Nat := (Fld.nv (Fld.fes (Fld.subm x11 x13)))
 let x22 : Bool := (Fld.ltN x21 x1)
 let x23 : Nat := (Fld.nv (Fld.fes (Fld.mulm 121665 x21)))
 let x24 : Nat := (Fld.nv (Fld.fes (Fld.addm x11 x23)))
 let x25 : Nat := (Fld.nv (Fld.fes (Fld.subm x17 x18)))
 let x26 : Nat := (Fld.nv (Fld.fes u))
 let x27 : Nat := (Fld.nv (Fld.fes (Fld.mulm x25 x25)))
 cnd (x3)
 (cnd (x3)
 (cnd (x6)
 (cnd (x6)
 (cnd (x8)
 (cnd (x10)
 (cnd (x14)
 (cnd ((Fld.ltN x15 x1) && x8)
 (cnd ((Fld.ltN x16 x1) && x10)
 (cnd (x14)
 (cnd (x19)
 (cnd (Fld.ltN x20 x1)
 (cnd ((Fld.ltN 121665 x1) && x22)
 (cnd (x12 && (Fld.ltN x23 x1))
 (cnd (x22 && (Fld.ltN x24 x1))
 (cnd (x19)
 (cnd (Fld.ltN x25 x1)
 (cnd ((Fld.ltN x26 x1) && (Fld.ltN x27 x1))
 (K (AV.agg [AV.agg [AV.w64 4 (Fld.fes (Fld.mulm x11 x13)), AV.w64 4 (Fld.fes (Fld.mulm x20 x20))], AV.agg [AV.w64 4 (Fld.fes (Fld.mulm x21 x24)), AV.w64 4 (Fld.fes (Fld.mulm x26 x27))]]) []))))))))))))))))))) := by kernel_rfl
noncomputable def rgA (r : Rg) : AV := .agg [.agg [.w64 4 (fes r.x0), .w64 4 (fes r.x1)], .agg [.w64 4 (fes r.z0), .w64 4 (fes r.z1)]]
theorem nv_addm (a b : Nat) : nv (fes (addm a b)) = addm a b := nv_mod _
theorem nv_subm (a b : Nat) : nv (fes (subm a b)) = subm a b := nv_mod _
theorem nv_mulm (a b : Nat) : nv (fes (mulm a b)) = mulm a b := nv_mod _
theorem ltN_addm (a b : Nat) : ltN (addm a b) prm = true := ltN_mod _
theorem ltN_subm (a b : Nat) : ltN (subm a b) prm = true := ltN_mod _
theorem ltN_mulm (a b : Nat) : ltN (mulm a b) prm = true := ltN_mod _
theorem nv_fesp {a : Nat} (h : a < prm) : nv (fes a) = a := nv_fes (Nat.lt_trans h prm_top)
theorem ltN_p {a : Nat} (h : a < prm) : ltN a prm = true := by rw [ltN_eq]; exact decide_eq_true h
theorem step_c0 (x0 x1 z0 z1 u : Nat) (h0 : x0 < prm) (h1 : x1 < prm) (h2 : z0 < prm) (h3 : z1 < prm) (h4 : u < prm) :
  HCall Tryd.E 37 [.agg [.agg [.w64 4 (fes x0), .w64 4 (fes x1)], .agg [.w64 4 (fes z0), .w64 4 (fes z1)]], .w64 4 (fes u)]
  (.ret (rgA (Rg.step u ⟨x0, x1, z0, z1⟩)) []) := by
 refine HCall.of_walk (R := RR) (T := T7) (fun _ _ => .unroll 6) 5 rfl rfl ?_
 rw [step_eq]
 simp only [hprm, nv_addm, nv_subm, nv_mulm, ltN_addm, ltN_subm, ltN_mulm, nv_fesp h0, nv_fesp h1, nv_fesp h2, nv_fesp h3, nv_fesp h4, ltN_p h0, ltN_p h1, ltN_p h2, ltN_p h3, ltN_p h4, ltN_p (show 121665 < prm by decide), Bool.and_self, cnd_true]
 exact ⟨rfl, rfl⟩
theorem step_c (a b c d u : List UInt64) (h0 : nv a < prm) (h1 : nv b < prm) (h2 : nv c < prm) (h3 : nv d < prm) (h4 : nv u < prm) :
  HCall Tryd.E 37 [.agg [.agg [.w64 4 a, .w64 4 b], .agg [.w64 4 c, .w64 4 d]], .w64 4 u]
  (.ret (rgA (Rg.step (nv u) ⟨nv a, nv b, nv c, nv d⟩)) []) := by
 refine HCall.of_len rfl rfl fun hl => ?_
 refine HCall.of_agg rfl rfl fun ha hb hc hd => ?_
 have hu : u.length = 4 := hl (.w64 4 u) (by simp)
 have := step_c0 _ _ _ _ _ h0 h1 h2 h3 h4
 rw [fes_nv ha, fes_nv hb, fes_nv hc, fes_nv hd, fes_nv hu] at this
 exact this
noncomputable def T8 : Ctr Tryd.E := T7.add 37 (fun
  | [.agg [.agg [.w64 4 a, .w64 4 b], .agg [.w64 4 c, .w64 4 d]], .w64 4 u] => some ((ltN (nv a) prm && ltN (nv b) prm) && (ltN (nv c) prm && ltN (nv d) prm) && ltN (nv u) prm, .ret (rgA (Rg.step (nv u) ⟨nv a, nv b, nv c, nv d⟩)) [])
  | _ => none) (by
   intro args pre out h hp
   split at h
   ·simp only [Option.some.injEq, Prod.mk.injEq] at h
    obtain ⟨rfl, rfl⟩ := h
    simp only [Bool.and_eq_true, ltN_eq, decide_eq_true_eq] at hp
    exact step_c _ _ _ _ _ hp.1.1.1 hp.1.1.2 hp.1.2.1 hp.1.2.2 hp.2
   ·simp at h)
def bitU (b : Bool) : UInt64 := cond b 1 0
noncomputable def multT (k u : List UInt8) (n : Nat) : List AV := [.b8 32 k, .b8 32 u, .ptr 0 0, .ptr 1 0, .ptr 2 0, .bool false, .ptr 3 0, .ptr 4 0, .u64 (bitU (lastB (clampB k) n)), .int .i64 (254 - n)] ++ List.replicate 60 .any
noncomputable def multH (k u : List UInt8) (n : Nat) : Heap := [.blk [.b8 32 (clampB k)] [], .blk [.b8 32 u] [], .blk [.b8 32 [0, 0, 0, 0, 0, 0, 0, 0, 0, 0, 0, 0, 0, 0, 0, 0, 0, 0, 0, 0, 0, 0, 0, 0, 0, 0, 0, 0, 0, 0, 0, 0]] [], .blk [.w64 4 (fes (fromN u))] [], .blk [rgA (lad (clampB k) (fromN u) n)] []]
theorem mult_eq (k u : List UInt8) (K : AV → Heap → Prop) : walk Tryd.E RR T8.C (fun f l => bif f == 29 && l == 6 then .inv Nat (fun n => n ≤ 255) (fun n => 255 - n) (multT k u) (multH k u) else .unroll 6) 5 29 [.b8 32 k, .b8 32 u] K = (
 let x0 : List UInt8 := (Fld.clampB k)
 let x1 : List UInt8 := [0, 0, 0, 0, 0, 0, 0, 0, 0, 0, 0, 0, 0, 0, 0, 0, 0, 0, 0, 0, 0, 0, 0, 0, 0, 0, 0, 0, 0, 0, 0, 0]
 let x2 : Nat := (Fld.fromN u)
 let x3 : Nat := 57896044618658097711785492504343953926634992332820282019728792003956564819949
 let x4 : Nat := (Fld.nv (Fld.fes x2))
(∃ w0 : Nat, (w0 ≤ 255) ∧ ((AV.b8 32 k = AV.b8 32 k) ∧ ((AV.b8 32 u = AV.b8 32 u) ∧ ((AV.bool false = AV.bool false) ∧ ((AV.u64 0 = AV.u64 (bitU (Fld.lastB x0 w0))) ∧ ((AV.int .i64 254 = AV.int .i64 (254 - ((w0 : Nat) : Int))) ∧ ((AV.b8 32 x0 = AV.b8 32 x0) ∧ ((AV.b8 32 u = AV.b8 32 u) ∧ ((AV.b8 32 x1 = AV.b8 32 x1) ∧ ((AV.w64 4 (Fld.fes x2) = AV.w64 4 (Fld.fes x2)) ∧ ((AV.w64 4 (List.set [0, 0, 0, 0] 0 1) = AV.w64 4 (Fld.fes (Fld.Rg.x0 (Fld.lad x0 x2 w0)))) ∧ ((AV.w64 4 (Fld.fes x2) = AV.w64 4 (Fld.fes (Fld.Rg.x1 (Fld.lad x0 x2 w0)))) ∧ ((AV.w64 4 [0, 0, 0, 0] = AV.w64 4 (Fld.fes (Fld.Rg.z0 (Fld.lad x0 x2 w0)))) ∧ ((AV.w64 4 (List.set [0, 0, 0, 0] 0 1) = AV.w64 4 (Fld.fes (Fld.Rg.z1 (Fld.lad x0 x2 w0)))) ∧ True)))))))))))))) ∧ (∀ w1 : Nat, (w1 ≤ 255 → ite2 (Bool.not (ltI (254 - ((w1 : Nat) : Int)) 0))
 (cnd (inB (wr .i64 (Int.tdiv (254 - ((w1 : Nat) : Int)) 8)) 32)
 (cnd (nnB (Int.tmod (254 - ((w1 : Nat) : Int)) 8))
 (cnd ((((bitU (Fld.lastB x0 w1)) ^^^ ((UInt8.toUInt64 (shr8 (List.getD x0 (ofs 0 (wr .i64 (Int.tdiv (254 - ((w1 : Nat) : Int)) 8))) 0) (Int.toNat (Int.tmod (254 - ((w1 : Nat) : Int)) 8)))) &&& 1)) == 0) || (((bitU (Fld.lastB x0 w1)) ^^^ ((UInt8.toUInt64 (shr8 (List.getD x0 (ofs 0 (wr .i64 (Int.tdiv (254 - ((w1 : Nat) : Int)) 8))) 0) (Int.toNat (Int.tmod (254 - ((w1 : Nat) : Int)) 8)))) &&& 1)) == 1))
 (cnd ((((Fld.ltN (Fld.nv (cond (((bitU (Fld.lastB x0 w1)) ^^^ ((UInt8.toUInt64 (shr8 (List.getD x0 (ofs 0 (wr .i64 (Int.tdiv (254 - ((w1 : Nat) : Int)) 8))) 0) (Int.toNat (Int.tmod (254 - ((w1 : Nat) : Int)) 8)))) &&& 1)) == 1) (Fld.fes (Fld.Rg.x1 (Fld.lad x0 x2 w1))) (Fld.fes (Fld.Rg.x0 (Fld.lad x0 x2 w1))))) x3) && (Fld.ltN (Fld.nv (cond (((bitU (Fld.lastB x0 w1)) ^^^ ((UInt8.toUInt64 (shr8 (List.getD x0 (ofs 0 (wr .i64 (Int.tdiv (254 - ((w1 : Nat) : Int)) 8))) 0) (Int.toNat (Int.tmod (254 - ((w1 : Nat) : Int)) 8)))) &&& 1)) == 1) (Fld.fes (Fld.Rg.x0 (Fld.lad x0 x2 w1))) (Fld.fes (Fld.Rg.x1 (Fld.lad x0 x2 w1))))) x3)) && ((Fld.ltN (Fld.nv (cond (((bitU (Fld.lastB x0 w1)) ^^^ ((UInt8.toUInt64 (shr8 (List.getD x0 (ofs 0 (wr .i64 (Int.tdiv (254 - ((w1 : Nat) : Int)) 8))) 0) (Int.toNat (Int.tmod (254 - ((w1 : Nat) : Int)) 8)))) &&& 1)) == 1) (Fld.fes (Fld.Rg.z1 (Fld.lad x0 x2 w1))) (Fld.fes (Fld.Rg.z0 (Fld.lad x0 x2 w1))))) x3) && (Fld.ltN (Fld.nv (cond (((bitU (Fld.lastB x0 w1)) ^^^ ((UInt8.toUInt64 (shr8 (List.getD x0 (ofs 0 (wr .i64 (Int.tdiv (254 - ((w1 : Nat) : Int)) 8))) 0) (Int.toNat (Int.tmod (254 - ((w1 : Nat) : Int)) 8)))) &&& 1)) == 1) (Fld.fes (Fld.Rg.z0 (Fld.lad x0 x2 w1))) (Fld.fes (Fld.Rg.z1 (Fld.lad x0 x2 w1))))) x3))) && (Fld.ltN x4 x3))
 ((∃ w2 : Nat, ((((fun n => 255 - n) w2) < ((fun n => 255 - n) w1)) ∧ (w2 ≤ 255)) ∧ ((AV.b8 32 k = AV.b8 32 k) ∧ ((AV.b8 32 u = AV.b8 32 u) ∧ ((AV.bool false = AV.bool false) ∧ ((AV.u64 ((UInt8.toUInt64 (shr8 (List.getD x0 (ofs 0 (wr .i64 (Int.tdiv (254 - ((w1 : Nat) : Int)) 8))) 0) (Int.toNat (Int.tmod (254 - ((w1 : Nat) : Int)) 8)))) &&& 1) = AV.u64 (bitU (Fld.lastB x0 w2))) ∧ ((AV.int .i64 (wr .i64 (subI (254 - ((w1 : Nat) : Int)) 1)) = AV.int .i64 (254 - ((w2 : Nat) : Int))) ∧ ((AV.b8 32 x0 = AV.b8 32 x0) ∧ ((AV.b8 32 u = AV.b8 32 u) ∧ ((AV.b8 32 x1 = AV.b8 32 x1) ∧ ((AV.w64 4 (Fld.fes x2) = AV.w64 4 (Fld.fes x2)) ∧ ((AV.w64 4 (Fld.fes (Fld.Rg.x0 (Fld.Rg.step x4 (Fld.Rg.mk (Fld.nv (cond (((bitU (Fld.lastB x0 w1)) ^^^ ((UInt8.toUInt64 (shr8 (List.getD x0 (ofs 0 (wr .i64 (Int.tdiv (254 - ((w1 : Nat) : Int)) 8))) 0) (Int.toNat (Int.tmod (254 - ((w1 : Nat) : Int)) 8)))) &&& (UInt64.ofNat (Int.toNat 1)))) == 1) (Fld.fes (Fld.Rg.x1 (Fld.lad x0 x2 w1))) (Fld.fes (Fld.Rg.x0 (Fld.lad x0 x2 w1))))) (Fld.nv (cond (((bitU (Fld.lastB x0 w1)) ^^^ ((UInt8.toUInt64 (shr8 (List.getD x0 (ofs 0 (wr .i64 (Int.tdiv (254 - ((w1 : Nat) : Int)) 8))) 0) (Int.toNat (Int.tmod (254 - ((w1 : Nat) : Int)) 8)))) &&& (UInt64.ofNat (Int.toNat 1)))) == 1) (Fld.fes (Fld.Rg.x0 (Fld.lad x0 x2 w1))) (Fld.fes (Fld.Rg.x1 (Fld.lad x0 x2 w1))))) (Fld.nv (cond (((bitU (Fld.lastB x0 w1)) ^^^ ((UInt8.toUInt64 (shr8 (List.getD x0 (ofs 0 (wr .i64 (Int.tdiv (254 - ((w1 : Nat) : Int)) 8))) 0) (Int.toNat (Int.tmod (254 - ((w1 : Nat) : Int)) 8)))) &&& (UInt64.ofNat (Int.toNat 1)))) == 1) (Fld.fes (Fld.Rg.z1 (Fld.lad x0 x2 w1))) (Fld.fes (Fld.Rg.z0 (Fld.lad x0 x2 w1))))) (Fld.nv (cond (((bitU (Fld.lastB x0 w1)) ^^^ ((UInt8.toUInt64 (shr8 (List.getD x0 (ofs 0 (wr .i64 (Int.tdiv (254 - ((w1 : Nat) : Int)) 8))) 0) (Int.toNat (Int.tmod (254 - ((w1 : Nat) : Int)) 8)))) &&& (UInt64.ofNat (Int.toNat 1)))) == 1) (Fld.fes (Fld.Rg.z0 (Fld.lad x0 x2 w1))) (Fld.fes (Fld.Rg.z1 (Fld.lad x0 x2 w1))))))))) = AV.w64 4 (Fld.fes (Fld.Rg.x0 (Fld.lad x0 x2 w2)))) ∧ ((AV.w64 4 (Fld.fes (Fld.Rg.x1 (Fld.Rg.step x4 (Fld.Rg.mk (Fld.nv (cond (((bitU (Fld.lastB x0 w1)) ^^^ ((UInt8.toUInt64 (shr8 (List.getD x0 (ofs 0 (wr .i64 (Int.tdiv (254 - ((w1 : Nat) : Int)) 8))) 0) (Int.toNat (Int.tmod (254 - ((w1 : Nat) : Int)) 8)))) &&& (UInt64.ofNat (Int.toNat 1)))) == 1) (Fld.fes (Fld.Rg.x1 (Fld.lad x0 x2 w1))) (Fld.fes (Fld.Rg.x0 (Fld.lad x0 x2 w1))))) (Fld.nv (cond (((bitU (Fld.lastB x0 w1)) ^^^ ((UInt8.toUInt64 (shr8 (List.getD x0 (ofs 0 (wr .i64 (Int.tdiv (254 - ((w1 : Nat) : Int)) 8))) 0) (Int.toNat (Int.tmod (254 - ((w1 : Nat) : Int)) 8)))) &&& (UInt64.ofNat (Int.toNat 1)))) == 1) (Fld.fes (Fld.Rg.x0 (Fld.lad x0 x2 w1))) (Fld.fes (Fld.Rg.x1 (Fld.lad x0 x2 w1))))) (Fld.nv (cond (((bitU (Fld.lastB x0 w1)) ^^^ ((UInt8.toUInt64 (shr8 (List.getD x0 (ofs 0 (wr .i64 (Int.tdiv (254 - ((w1 : Nat) : Int)) 8))) 0) (Int.toNat (Int.tmod (254 - ((w1 : Nat) : Int)) 8)))) &&& (UInt64.ofNat (Int.toNat 1)))) == 1) (Fld.fes (Fld.Rg.z1 (Fld.lad x0 x2 w1))) (Fld.fes (Fld.Rg.z0 (Fld.lad x0 x2 w1))))) (Fld.nv (cond (((bitU (Fld.lastB x0 w1)) ^^^ ((UInt8.toUInt64 (shr8 (List.getD x0 (ofs 0 (wr .i64 (Int.tdiv (254 - ((w1 : Nat) : Int)) 8))) 0) (Int.toNat (Int.tmod (254 - ((w1 : Nat) : Int)) 8)))) &&& (UInt64.ofNat (Int.toNat 1)))) == 1) (Fld.fes (Fld.Rg.z0 (Fld.lad x0 x2 w1))) (Fld.fes (Fld.Rg.z1 (Fld.lad x0 x2 w1))))))))) = AV.w64 4 (Fld.fes (Fld.Rg.x1 (Fld.lad x0 x2 w2)))) ∧ ((AV.w64 4 (Fld.fes (Fld.Rg.z0 (Fld.Rg.step x4 (Fld.Rg.mk (Fld.nv (cond (((bitU (Fld.lastB x0 w1)) ^^^ ((UInt8.toUInt64 (shr8 (List.getD x0 (ofs 0 (wr .i64 (Int.tdiv (254 - ((w1 : Nat) : Int)) 8))) 0) (Int.toNat (Int.tmod (254 - ((w1 : Nat) : Int)) 8)))) &&& (UInt64.ofNat (Int.toNat 1)))) == 1) (Fld.fes (Fld.Rg.x1 (Fld.lad x0 x2 w1))) (Fld.fes (Fld.Rg.x0 (Fld.lad x0 x2 w1))))) (Fld.nv (cond (((bitU (Fld.lastB x0 w1)) ^^^ ((UInt8.toUInt64 (shr8 (List.getD x0 (ofs 0 (wr .i64 (Int.tdiv (254 - ((w1 : Nat) : Int)) 8))) 0) (Int.toNat (Int.tmod (254 - ((w1 : Nat) : Int)) 8)))) &&& (UInt64.ofNat (Int.toNat 1)))) == 1) (Fld.fes (Fld.Rg.x0 (Fld.lad x0 x2 w1))) (Fld.fes (Fld.Rg.x1 (Fld.lad x0 x2 w1))))) (Fld.nv (cond (((bitU (Fld.lastB x0 w1)) ^^^ ((UInt8.toUInt64 (shr8 (List.getD x0 (ofs 0 (wr .i64 (Int.tdiv (254 - ((w1 : Nat) : Int)) 8))) 0) (Int.toNat (Int.tmod (254 - ((w1 : Nat) : Int)) 8)))) &&& (UInt64.ofNat (Int.toNat 1)))) == 1) (Fld.fes (Fld.Rg.z1 (Fld.lad x0 x2 w1))) (Fld.fes (Fld.Rg.z0 (Fld.lad x0 x2 w1))))) (Fld.nv (cond (((bitU (Fld.lastB x0 w1)) ^^^ ((UInt8.toUInt64 (shr8 (List.getD x0 (ofs 0 (wr .i64 (Int.tdiv (254 - ((w1 : Nat) : Int)) 8))) 0) (Int.toNat (Int.tmod (254 - ((w1 : Nat) : Int)) 8)))) &&& (UInt64.ofNat (Int.toNat 1)))) == 1) (Fld.fes (Fld.Rg.z0 (Fld.lad x0 x2 w1))) (Fld.fes (Fld.Rg.z1 (Fld.lad x0 x2 w1))))))))) = AV.w64 4 (Fld.fes (Fld.Rg.z0 (Fld.lad x0 x2 w2)))) ∧ ((AV.w64 4 (Fld.fes (Fld.Rg.z1 (Fld.Rg.step x4 (Fld.Rg.mk (Fld.nv (cond (((bitU (Fld.lastB x0 w1)) ^^^ ((UInt8.toUInt64 (shr8 (List.getD x0 (ofs 0 (wr .i64 (Int.tdiv (254 - ((w1 : Nat) : Int)) 8))) 0) (Int.toNat (Int.tmod (254 - ((w1 : Nat) : Int)) 8)))) &&& (UInt64.ofNat (Int.toNat 1)))) == 1) (Fld.fes (Fld.Rg.x1 (Fld.lad x0 x2 w1))) (Fld.fes (Fld.Rg.x0 (Fld.lad x0 x2 w1))))) (Fld.nv (cond (((bitU (Fld.lastB x0 w1)) ^^^ ((UInt8.toUInt64 (shr8 (List.getD x0 (ofs 0 (wr .i64 (Int.tdiv (254 - ((w1 : Nat) : Int)) 8))) 0) (Int.toNat (Int.tmod (254 - ((w1 : Nat) : Int)) 8)))) &&& (UInt64.ofNat (Int.toNat 1)))) == 1) (Fld.fes (Fld.Rg.x0 (Fld.lad x0 x2 w1))) (Fld.fes (Fld.Rg.x1 (Fld.lad x0 x2 w1))))) (Fld.nv (cond (((bitU (Fld.lastB x0 w1)) ^^^ ((UInt8.toUInt64 (shr8 (List.getD x0 (ofs 0 (wr .i64 (Int.tdiv (254 - ((w1 : Nat) : Int)) 8))) 0) (Int.toNat (Int.tmod (254 - ((w1 : Nat) : Int)) 8)))) &&& (UInt64.ofNat (Int.toNat 1)))) == 1) (Fld.fes (Fld.Rg.z1 (Fld.lad x0 x2 w1))) (Fld.fes (Fld.Rg.z0 (Fld.lad x0 x2 w1))))) (Fld.nv (cond (((bitU (Fld.lastB x0 w1)) ^^^ ((UInt8.toUInt64 (shr8 (List.getD x0 (ofs 0 (wr .i64 (Int.tdiv (254 - ((w1 : Nat) : Int)) 8))) 0) (Int.toNat (Int.tmod (254 - ((w1 : Nat) : Int)) 8)))) &&& (UInt64.ofNat (Int.toNat 1)))) == 1) (Fld.fes (Fld.Rg.z0 (Fld.lad x0 x2 w1))) (Fld.fes (Fld.Rg.z1 (Fld.lad x0 x2 w1))))))))) = AV.w64 4 (Fld.fes (Fld.Rg.z1 (Fld.lad x0 x2 w2)))) ∧ True)))))))))))))))))))
 (cnd (((bitU (Fld.lastB x0 w1)) == 0) || ((bitU (Fld.lastB x0 w1)) == 1))
 (cnd (Fld.ltN (Fld.nv (cond ((bitU (Fld.lastB x0 w1)) == 1) (Fld.fes (Fld.Rg.z1 (Fld.lad x0 x2 w1))) (Fld.fes (Fld.Rg.z0 (Fld.lad x0 x2 w1))))) x3)
 (cnd ((Fld.ltN (Fld.nv (cond ((bitU (Fld.lastB x0 w1)) == 1) (Fld.fes (Fld.Rg.x1 (Fld.lad x0 x2 w1))) (Fld.fes (Fld.Rg.x0 (Fld.lad x0 x2 w1))))) x3) && (Fld.ltN (Fld.nv (Fld.fes (((Fld.nv (cond ((bitU (Fld.lastB x0 w1)) == 1) (Fld.fes (Fld.Rg.z1 (Fld.lad x0 x2 w1))) (Fld.fes (Fld.Rg.z0 (Fld.lad x0 x2 w1))))) ^ 57896044618658097711785492504343953926634992332820282019728792003956564819947) % x3))) x3))
 (cnd (Fld.ltN (Fld.nv (Fld.fes (Fld.mulm (Fld.nv (cond ((bitU (Fld.lastB x0 w1)) == 1) (Fld.fes (Fld.Rg.x1 (Fld.lad x0 x2 w1))) (Fld.fes (Fld.Rg.x0 (Fld.lad x0 x2 w1))))) (Fld.nv (Fld.fes (((Fld.nv (cond ((bitU (Fld.lastB x0 w1)) == 1) (Fld.fes (Fld.Rg.z1 (Fld.lad x0 x2 w1))) (Fld.fes (Fld.Rg.z0 (Fld.lad x0 x2 w1))))) ^ 57896044618658097711785492504343953926634992332820282019728792003956564819947) % x3)))))) x3)
 (K (AV.tup [AV.b8 32 (Fld.bytesS (Fld.nv (Fld.fes (Fld.mulm (Fld.nv (cond ((bitU (Fld.lastB x0 w1)) == 1) (Fld.fes (Fld.Rg.x1 (Fld.lad x0 x2 w1))) (Fld.fes (Fld.Rg.x0 (Fld.lad x0 x2 w1))))) (Fld.nv (Fld.fes (((Fld.nv (cond ((bitU (Fld.lastB x0 w1)) == 1) (Fld.fes (Fld.Rg.z1 (Fld.lad x0 x2 w1))) (Fld.fes (Fld.Rg.z0 (Fld.lad x0 x2 w1))))) ^ 57896044618658097711785492504343953926634992332820282019728792003956564819947) % x3))))))), AV.bool (Bool.not ((Fld.bytesS (Fld.nv (Fld.fes (Fld.mulm (Fld.nv (cond ((bitU (Fld.lastB x0 w1)) == 1) (Fld.fes (Fld.Rg.x1 (Fld.lad x0 x2 w1))) (Fld.fes (Fld.Rg.x0 (Fld.lad x0 x2 w1))))) (Fld.nv (Fld.fes (((Fld.nv (cond ((bitU (Fld.lastB x0 w1)) == 1) (Fld.fes (Fld.Rg.z1 (Fld.lad x0 x2 w1))) (Fld.fes (Fld.Rg.z0 (Fld.lad x0 x2 w1))))) ^ 57896044618658097711785492504343953926634992332820282019728792003956564819947) % x3))))))) == x1))]) [])))))))) := by kernel_rfl
theorem wrap_i64_of {n : Int} (h : -9223372036854775808 ≤ n) (h2 : n ≤ 9223372036854775807) : IntKind.i64.wrap n = n := by
 have := IntKind.wrap_i64 n
 rw [this]; omega
theorem bitU_xor (a b : Bool) : bitU a ^^^ bitU b = bitU (a ^^ b) := by cases a <;> cases b <;> decide
theorem bitU_one (a : Bool) : (bitU a == 1) = a := by cases a <;> decide
theorem bitU_zero (a : Bool) : (bitU a == 0) = !a := by cases a <;> decide
theorem idx_of {a : Nat} (h : a ≤ 254) : (254 - (a : Int)).tdiv 8 = (((254 - a) / 8 : Nat) : Int) ∧ (254 - (a : Int)).tmod 8 = (((254 - a) % 8 : Nat) : Int) := by
 have e : 254 - (a : Int) = ((254 - a : Nat) : Int) := by omega
 rw [e]
 exact ⟨by rw [Int.tdiv_eq_ediv_of_nonneg (by omega)]; omega, by rw [Int.tmod_eq_emod_of_nonneg (by omega)]; omega⟩
theorem bit_eq (k : List UInt8) {a : Nat} (h : a ≤ 254) : (shr8 (k.getD (ofs 0 (IntKind.i64.wrap ((254 - (a : Int)).tdiv 8))) 0) ((254 - (a : Int)).tmod 8).toNat).toUInt64 &&& 1 = bitU (kbit k (254 - a)) := by
 obtain ⟨e1, e2⟩ := idx_of h
 rw [e1, e2, wrap_i64_of (by omega) (by omega), ofs_eq, Int.toNat_natCast, Int.toNat_natCast, Nat.zero_add, kbit]
 generalize k.getD ((254 - a) / 8) 0 = x
 generalize (254 - a) % 8 = j
 apply UInt64.toNat_inj.1
 have hx : x.toNat / 2 ^ j < 256 := Nat.lt_of_le_of_lt (Nat.div_le_self _ _) x.toNat_lt
 rw [UInt64.toNat_and, UInt8.toNat_toUInt64, shr8, UInt8.toNat_ofNat', Nat.mod_eq_of_lt hx, show (1 : UInt64).toNat = 2 ^ 1 - 1 from rfl, Nat.and_two_pow_sub_one_eq_mod]
 rcases Nat.mod_two_eq_zero_or_one (x.toNat / 2 ^ j) with h | h <;> rw [Nat.pow_one, h] <;> rfl
theorem multN_eq (k : List UInt8) (u n e : Nat) (h : n = 255) (he : prm - 2 = e) : multN k u = mulm (cond (lastB k n) (lad k u n).x1 (lad k u n).x0) (cond (lastB k n) (lad k u n).z1 (lad k u n).z0 ^ e % prm) := by
 rw [multN, ladEnd, ← h, he]
 generalize lad k u n = r
 cases lastB k n <;> rfl
theorem mult_fin (b : Bool) (r : Rg) (e : Nat) (l0 : r.x0 < prm) (l1 : r.x1 < prm) (l2 : r.z0 < prm) (l3 : r.z1 < prm) :
  cnd (ltN (nv (cond b (fes r.z1) (fes r.z0))) prm)
   (cnd (ltN (nv (cond b (fes r.x1) (fes r.x0))) prm && ltN (nv (fes (nv (cond b (fes r.z1) (fes r.z0)) ^ e % prm))) prm)
    (cnd (ltN (nv (fes (mulm (nv (cond b (fes r.x1) (fes r.x0))) (nv (fes (nv (cond b (fes r.z1) (fes r.z0)) ^ e % prm)))))) prm)
     ((Out.ret (.tup [.b8 32 (bytesS (mulm (cond b r.x1 r.x0) (cond b r.z1 r.z0 ^ e % prm))), .bool (!(bytesS (mulm (cond b r.x1 r.x0) (cond b r.z1 r.z0 ^ e % prm)) == List.replicate 32 0))]) []).has
      (.tup [.b8 32 (bytesS (nv (fes (mulm (nv (cond b (fes r.x1) (fes r.x0))) (nv (fes (nv (cond b (fes r.z1) (fes r.z0)) ^ e % prm))))))), .bool (!(bytesS (nv (fes (mulm (nv (cond b (fes r.x1) (fes r.x0))) (nv (fes (nv (cond b (fes r.z1) (fes r.z0)) ^ e % prm)))))) == [0, 0, 0, 0, 0, 0, 0, 0, 0, 0, 0, 0, 0, 0, 0, 0, 0, 0, 0, 0, 0, 0, 0, 0, 0, 0, 0, 0, 0, 0, 0, 0]))]) []))) := by
 cases b <;> simp only [cond_true, cond_false, nv_fesp l0, nv_fesp l1, nv_fesp l2, nv_fesp l3, ltN_p l0, ltN_p l1, ltN_p l2, ltN_p l3, nv_mod, ltN_mod, nv_mulm, ltN_mulm, Bool.and_self, cnd_true] <;> exact ⟨rfl, rfl⟩
theorem mult_c (k u : List UInt8) : HCall Tryd.E 29 [.b8 32 k, .b8 32 u]
  (.ret (.tup [.b8 32 (bytesS (multN (clampB k) (fromN u))), .bool (!(bytesS (multN (clampB k) (fromN u)) == List.replicate 32 0))]) []) := by
 refine HCall.of_walk (R := RR) (T := T8) (fun f l => bif f == 29 && l == 6 then .inv Nat (fun n => n ≤ 255) (fun n => 255 - n) (multT k u) (multH k u) else .unroll 6) 5 rfl rfl ?_
 rw [mult_eq]
 simp only [wr_eq, subI_eq]
 have hu := fromN_lt u
 have h1 : List.set [0, 0, 0, 0] 0 1 = fes 1 := by rw [fes_eq]; rfl
 have h0 : [0, 0, 0, 0] = fes 0 := by rw [fes_eq]; rfl
 refine ⟨⟨0, Nat.zero_le _, trivial, trivial, trivial, rfl, rfl, trivial, trivial, trivial, trivial, by rw [h1]; rfl, rfl, by rw [h0]; rfl, by rw [h1]; rfl, trivial⟩, fun a ha => ?_⟩
 have ha : a ≤ 255 := ha
 obtain ⟨l0, l1, l2, l3⟩ := lad_lt (clampB k) hu a
 rcases Nat.lt_or_ge a 255 with h | h
 ·have h5 : a ≤ 254 := by omega
  obtain ⟨e1, e2⟩ := idx_of h5
  have c1 : inB (IntKind.i64.wrap ((254 - (a : Int)).tdiv 8)) 32 = true := by
   rw [e1, wrap_i64_of (by omega) (by omega)]; exact inB_of (by omega) (by omega)
  have c2 : nnB ((254 - (a : Int)).tmod 8) = true := by rw [e2]; exact nnB_iff.2 (by omega)
  have c0 : (!ltI (254 - (a : Int)) 0) = true := by rw [ltI_eq]; simp; omega
  have h1 : UInt64.ofNat (Int.toNat 1) = 1 := rfl
  simp only [c0, c1, c2, h1, bit_eq _ h5, bitU_xor, bitU_one, bitU_zero, Bool.not_or_self, cnd_true, ite2, hprm]
  have hnext : lad (clampB k) (fromN u) (a + 1) = ((lad (clampB k) (fromN u) a).swapB (lastB (clampB k) a ^^ kbit (clampB k) (254 - a))).step (fromN u) := rfl
  rw [cnd_eq]
  refine ⟨?_, a + 1, ⟨?_, Nat.succ_le_of_lt h⟩, trivial, trivial, trivial, rfl, ?_, trivial, trivial, trivial, trivial, ?_, ?_, ?_, ?_, trivial⟩
  ·cases (lastB (clampB k) a ^^ kbit (clampB k) (254 - a)) <;> simp only [cond_true, cond_false, nv_fesp l0, nv_fesp l1, nv_fesp l2, nv_fesp l3, ltN_p l0, ltN_p l1, ltN_p l2, ltN_p l3, nv_fesp hu, ltN_p hu, Bool.and_self]
  ·show 255 - (a + 1) < 255 - a
   omega
  ·rw [wrap_i64_of (by omega) (by omega)]; congr 1; omega
  all_goals
   rw [hnext]
   cases (lastB (clampB k) a ^^ kbit (clampB k) (254 - a)) <;> simp only [cond_true, cond_false, nv_fesp l0, nv_fesp l1, nv_fesp l2, nv_fesp l3, nv_fesp hu, Rg.swapB, Rg.swap] <;> rfl
 ·have h255 : a = 255 := Nat.le_antisymm ha h
  have c0 : (!ltI (254 - (a : Int)) 0) = false := by rw [ltI_eq]; simp; omega
  obtain ⟨e, he, he'⟩ : ∃ e : Nat, 57896044618658097711785492504343953926634992332820282019728792003956564819947 = e ∧ prm - 2 = e := ⟨_, rfl, rfl⟩
  have hm := multN_eq (clampB k) (fromN u) a e h255 he'
  simp only [c0, bitU_one, bitU_zero, Bool.not_or_self, cnd_true, ite2, hprm, he]
  rw [hm]
  exact mult_fin _ _ _ l0 l1 l2 l3
end Go.Proofs.YtehaohfglolljaaDoor
namespace Go.Proofs.YtehaohfglolljaaDoor
open Go Go.V Go.Fld Go.Edw
set_option maxRecDepth 100000
noncomputable def dhS : List UInt8 → List UInt8 → List UInt8 := (sealed fun k u => bytesS (multN (clampB k) (fromN u))).val
theorem dhS_eq (k u : List UInt8) : dhS k u = bytesS (multN (clampB k) (fromN u)) := by rw [dhS, (sealed fun k u => bytesS (multN (clampB k) (fromN u))).property]
noncomputable def tellS : List UInt8 → List UInt8 → Bool := (sealed fun k u => !(bytesS (multN (clampB k) (fromN u)) == List.replicate 32 0)).val
theorem tellS_eq (k u : List UInt8) : tellS k u = !(bytesS (multN (clampB k) (fromN u)) == List.replicate 32 0) := by rw [tellS, (sealed fun k u => !(bytesS (multN (clampB k) (fromN u)) == List.replicate 32 0)).property]
noncomputable def pubS : List UInt8 → List UInt8 := (sealed fun k => bytesS (multN (clampB k) 9)).val
theorem pubS_eq (k : List UInt8) : pubS k = bytesS (multN (clampB k) 9) := by rw [pubS, (sealed fun k => bytesS (multN (clampB k) 9)).property]
theorem length_dhS (k u : List UInt8) : (dhS k u).length = 32 := by rw [dhS_eq, length_bytesS]
theorem length_pubS (k : List UInt8) : (pubS k).length = 32 := by rw [pubS_eq, length_bytesS]
theorem bytes_zero' {n : Nat} (h : n < prm) : (bytesS n == List.replicate 32 0) = decide (n = 0) := by
 by_cases h0 : n = 0
 ·subst h0
  rw [bytesS_eq, show bytesN 32 0 = List.replicate 32 0 by decide +kernel]
  simp
 ·rw [decide_eq_false h0, beq_eq_false_iff_ne]
  intro e
  apply h0
  rw [bytesS_eq] at e
  have h1 := congrArg Fld.leB e
  rw [leB_bytesN 32 n (Nat.lt_trans h (by decide)), show Fld.leB (List.replicate 32 0) = 0 by decide +kernel] at h1
  exact h1
theorem dh_comm (a b : List UInt8) : dhS a (pubS b) = dhS b (pubS a) := by
 have h9 : (9 : Nat) < prm := by decide
 rw [dhS_eq, dhS_eq, pubS_eq, pubS_eq, from_bytes (multN_lt _ _), from_bytes (multN_lt _ _), dh_turns h9 (clampB b) (clampB a)]
theorem dh_tells {a b : List UInt8} (ha : a.length = 32) (hb : b.length = 32) : tellS a (pubS b) = true := by
 have m2 := nine_two ha hb
 have := bytes_zero' (multN_lt (clampB a) (multN (clampB b) 9))
 rw [tellS_eq, pubS_eq, from_bytes (multN_lt _ _), this, decide_eq_false m2]; rfl
noncomputable def T8m : Ctr Tryd.E := T8.add 29 (fun
  | [.b8 32 k, .b8 32 u] => some (true, .ret (.tup [.b8 32 (bytesS (multN (clampB k) (fromN u))), .bool (!(bytesS (multN (clampB k) (fromN u)) == List.replicate 32 0))]) [])
  | _ => none) (by
   intro args pre out h hp
   split at h
   ·simp only [Option.some.injEq, Prod.mk.injEq] at h
    obtain ⟨rfl, rfl⟩ := h
    exact mult_c _ _
   ·simp at h)
theorem baseM_w (k : List UInt8) (K : AV → Heap → Prop) : walk Tryd.E RR T8m.C (fun _ _ => .unroll 6) 3 16 [.b8 32 k] K = K (.b8 32 (bytesS (multN (clampB k) 9))) [] := by kernel_rfl
theorem baseM_c (k : List UInt8) : HCall Tryd.E 16 [.b8 32 k] (.ret (.b8 32 (pubS k)) []) := by
 refine HCall.of_walk (R := RR) (T := T8m) (fun _ _ => .unroll 6) 3 rfl rfl ?_
 rw [baseM_w, pubS_eq]
 exact ⟨rfl, rfl⟩
theorem multM_c (k u : List UInt8) : HCall Tryd.E 29 [.b8 32 k, .b8 32 u] (.ret (.tup [.b8 32 (dhS k u), .bool (tellS k u)]) []) := by
 rw [dhS_eq, tellS_eq]
 exact mult_c k u
noncomputable def M1 : Ctr Tryd.E := ((Ctr.nil Tryd.E).add 29 (fun
  | [.b8 32 k, .b8 32 u] => some (true, .ret (.tup [.b8 32 (dhS k u), .bool (tellS k u)]) [])
  | _ => none) (by
   intro args pre out h hp
   split at h
   ·simp only [Option.some.injEq, Prod.mk.injEq] at h
    obtain ⟨rfl, rfl⟩ := h
    exact multM_c _ _
   ·simp at h)).add 16 (fun
  | [.b8 32 k] => some (true, .ret (.b8 32 (pubS k)) [])
  | _ => none) (by
   intro args pre out h hp
   split at h
   ·simp only [Option.some.injEq, Prod.mk.injEq] at h
    obtain ⟨rfl, rfl⟩ := h
    exact baseM_c _
   ·simp at h)
end Go.Proofs.YtehaohfglolljaaDoor