/- This seat's translation as the abstract layer knows it (wip tools env.py): types, functions, package-level variables. -/
import Derived.Test.YtdipeoacmapehaaDoorProg
import Derived.Test.YtdipeoacmapehaaDoorZzac
import Derived.Test.YtdipeoacmapehaaDoorZzae
import Derived.KernelRfl

set_option linter.unusedSimpArgs false
set_option linter.unusedVariables false
namespace Go.Proofs
open Go Go.V

def Tryd.ti2 : TI := ⟨1, 8, .int .i64, some (.int .i64 0), false, false⟩
def Tryd.ti3 : TI := ⟨1, 8, .int .i64, some (.int .i64 0), false, false⟩
def Tryd.ti4 : TI := ⟨1, 1, .bool, some (.bool false), false, false⟩
def Tryd.ti5 : TI := ⟨1, 1, .int .u8, some (.u8 0), false, false⟩
def Tryd.ti6 : TI := ⟨1, 1, .int .u8, some (.u8 0), false, false⟩
def Tryd.ti7 : TI := ⟨4, 24, .str [(0, 2), (1, 3), (2, 4), (3, 6)], some (.agg [.int .i64 0, .int .i64 0, .bool false, .u8 0]), false, false⟩
def Tryd.ti8 : TI := ⟨4, 24, .str [(0, 2), (1, 3), (2, 4), (3, 6)], some (.agg [.int .i64 0, .int .i64 0, .bool false, .u8 0]), false, false⟩
def Tryd.ti9 : TI := ⟨1, 16, .string, some (.str []), false, false⟩
def Tryd.ti10 : TI := ⟨1, 16, .string, some (.str []), false, false⟩
def Tryd.ti11 : TI := ⟨1, 16, .string, some (.str []), false, false⟩
def Tryd.ti12 : TI := ⟨1, 8, .int .u64, some (.u64 0), false, false⟩
def Tryd.ti13 : TI := ⟨2, 24, .str [(0, 9), (1, 12)], some (.agg [.str [], .u64 0]), false, false⟩
def Tryd.ti14 : TI := ⟨2, 24, .str [(0, 9), (1, 12)], some (.agg [.str [], .u64 0]), false, false⟩
def Tryd.ti15 : TI := ⟨1, 8, .ptr 115, some (.raw (.pointer none)), false, false⟩
def Tryd.ti16 : TI := ⟨1, 8, .ptr 118, some (.raw (.pointer none)), false, false⟩
def Tryd.ti17 : TI := ⟨1, 8, .ptr 127, some (.raw (.pointer none)), false, false⟩
def Tryd.ti18 : TI := ⟨1, 8, .str [(0, 17)], some (.agg [.raw (.pointer none)]), false, false⟩
def Tryd.ti19 : TI := ⟨1, 8, .str [(0, 17)], some (.agg [.raw (.pointer none)]), false, false⟩
def Tryd.ti21 : TI := ⟨1, 4, .int .i32, some (.int .i32 0), false, false⟩
def Tryd.ti22 : TI := ⟨1, 24, .slice 5, some (.vec8 true []), false, false⟩
def Tryd.ti24 : TI := ⟨1, 4, .int .u32, some (.u32 0), false, false⟩
def Tryd.ti25 : TI := ⟨8, 32, .arr 8 24, some (.w32 8 [0, 0, 0, 0, 0, 0, 0, 0]), true, false⟩
def Tryd.ti26 : TI := ⟨64, 64, .arr 64 5, some (.b8 64 (List.replicate 64 0)), true, false⟩
def Tryd.ti27 : TI := ⟨74, 112, .str [(0, 25), (8, 26), (72, 3), (73, 3)], some (.agg [.w32 8 [0, 0, 0, 0, 0, 0, 0, 0], .b8 64 (List.replicate 64 0), .int .i64 0, .int .i64 0]), true, true⟩
def Tryd.ti28 : TI := ⟨74, 112, .str [(0, 25), (8, 26), (72, 3), (73, 3)], some (.agg [.w32 8 [0, 0, 0, 0, 0, 0, 0, 0], .b8 64 (List.replicate 64 0), .int .i64 0, .int .i64 0]), true, true⟩
def Tryd.ti30 : TI := ⟨1, 24, .slice 22, some (.vec true 1 []), false, false⟩
def Tryd.ti31 : TI := ⟨1, 8, .int .i64, some (.int .i64 0), false, false⟩
def Tryd.ti34 : TI := ⟨32, 32, .arr 32 5, some (.b8 32 [0, 0, 0, 0, 0, 0, 0, 0, 0, 0, 0, 0, 0, 0, 0, 0, 0, 0, 0, 0, 0, 0, 0, 0, 0, 0, 0, 0, 0, 0, 0, 0]), true, false⟩
def Tryd.ti35 : TI := ⟨32, 32, .arr 32 5, some (.b8 32 [0, 0, 0, 0, 0, 0, 0, 0, 0, 0, 0, 0, 0, 0, 0, 0, 0, 0, 0, 0, 0, 0, 0, 0, 0, 0, 0, 0, 0, 0, 0, 0]), true, false⟩
def Tryd.ti41 : TI := ⟨1, 24, .slice 9, some (.vec true 1 []), false, false⟩
def Tryd.ti43 : TI := ⟨1, 24, .slice 53, some (.vec true 4 []), false, false⟩
def Tryd.ti44 : TI := ⟨1, 8, .int .u64, some (.u64 0), false, false⟩
def Tryd.ti45 : TI := ⟨34, 48, .str [(0, 4), (1, 35), (33, 44)], some (.agg [.bool false, .b8 32 [0, 0, 0, 0, 0, 0, 0, 0, 0, 0, 0, 0, 0, 0, 0, 0, 0, 0, 0, 0, 0, 0, 0, 0, 0, 0, 0, 0, 0, 0, 0, 0], .u64 0]), true, true⟩
def Tryd.ti46 : TI := ⟨34, 48, .str [(0, 4), (1, 35), (33, 44)], some (.agg [.bool false, .b8 32 [0, 0, 0, 0, 0, 0, 0, 0, 0, 0, 0, 0, 0, 0, 0, 0, 0, 0, 0, 0, 0, 0, 0, 0, 0, 0, 0, 0, 0, 0, 0, 0], .u64 0]), true, true⟩
def Tryd.ti47 : TI := ⟨98, 112, .str [(0, 46), (34, 35), (66, 35)], some (.agg [.agg [.bool false, .b8 32 [0, 0, 0, 0, 0, 0, 0, 0, 0, 0, 0, 0, 0, 0, 0, 0, 0, 0, 0, 0, 0, 0, 0, 0, 0, 0, 0, 0, 0, 0, 0, 0], .u64 0], .b8 32 [0, 0, 0, 0, 0, 0, 0, 0, 0, 0, 0, 0, 0, 0, 0, 0, 0, 0, 0, 0, 0, 0, 0, 0, 0, 0, 0, 0, 0, 0, 0, 0], .b8 32 [0, 0, 0, 0, 0, 0, 0, 0, 0, 0, 0, 0, 0, 0, 0, 0, 0, 0, 0, 0, 0, 0, 0, 0, 0, 0, 0, 0, 0, 0, 0, 0]]), true, true⟩
def Tryd.ti48 : TI := ⟨98, 112, .str [(0, 46), (34, 35), (66, 35)], some (.agg [.agg [.bool false, .b8 32 [0, 0, 0, 0, 0, 0, 0, 0, 0, 0, 0, 0, 0, 0, 0, 0, 0, 0, 0, 0, 0, 0, 0, 0, 0, 0, 0, 0, 0, 0, 0, 0], .u64 0], .b8 32 [0, 0, 0, 0, 0, 0, 0, 0, 0, 0, 0, 0, 0, 0, 0, 0, 0, 0, 0, 0, 0, 0, 0, 0, 0, 0, 0, 0, 0, 0, 0, 0], .b8 32 [0, 0, 0, 0, 0, 0, 0, 0, 0, 0, 0, 0, 0, 0, 0, 0, 0, 0, 0, 0, 0, 0, 0, 0, 0, 0, 0, 0, 0, 0, 0, 0]]), true, true⟩
def Tryd.ti52 : TI := ⟨4, 40, .str [(0, 3), (1, 3), (2, 3), (3, 9)], some (.agg [.int .i64 0, .int .i64 0, .int .i64 0, .str []]), true, true⟩
def Tryd.ti53 : TI := ⟨4, 40, .str [(0, 3), (1, 3), (2, 3), (3, 9)], some (.agg [.int .i64 0, .int .i64 0, .int .i64 0, .str []]), true, true⟩
def Tryd.ti57 : TI := ⟨68, 96, .arr 2 46, some (.agg [.agg [.bool false, .b8 32 [0, 0, 0, 0, 0, 0, 0, 0, 0, 0, 0, 0, 0, 0, 0, 0, 0, 0, 0, 0, 0, 0, 0, 0, 0, 0, 0, 0, 0, 0, 0, 0], .u64 0], .agg [.bool false, .b8 32 [0, 0, 0, 0, 0, 0, 0, 0, 0, 0, 0, 0, 0, 0, 0, 0, 0, 0, 0, 0, 0, 0, 0, 0, 0, 0, 0, 0, 0, 0, 0, 0], .u64 0]]), true, false⟩
def Tryd.ti62 : TI := ⟨64, 64, .arr 2 35, some (.agg [.b8 32 [0, 0, 0, 0, 0, 0, 0, 0, 0, 0, 0, 0, 0, 0, 0, 0, 0, 0, 0, 0, 0, 0, 0, 0, 0, 0, 0, 0, 0, 0, 0, 0], .b8 32 [0, 0, 0, 0, 0, 0, 0, 0, 0, 0, 0, 0, 0, 0, 0, 0, 0, 0, 0, 0, 0, 0, 0, 0, 0, 0, 0, 0, 0, 0, 0, 0]]), true, false⟩
def Tryd.ti65 : TI := ⟨96, 96, .arr 3 35, some (.agg [.b8 32 [0, 0, 0, 0, 0, 0, 0, 0, 0, 0, 0, 0, 0, 0, 0, 0, 0, 0, 0, 0, 0, 0, 0, 0, 0, 0, 0, 0, 0, 0, 0, 0], .b8 32 [0, 0, 0, 0, 0, 0, 0, 0, 0, 0, 0, 0, 0, 0, 0, 0, 0, 0, 0, 0, 0, 0, 0, 0, 0, 0, 0, 0, 0, 0, 0, 0], .b8 32 [0, 0, 0, 0, 0, 0, 0, 0, 0, 0, 0, 0, 0, 0, 0, 0, 0, 0, 0, 0, 0, 0, 0, 0, 0, 0, 0, 0, 0, 0, 0, 0]]), true, false⟩
def Tryd.ti69 : TI := ⟨16, 64, .arr 16 24, some (.w32 16 [0, 0, 0, 0, 0, 0, 0, 0, 0, 0, 0, 0, 0, 0, 0, 0]), true, false⟩
def Tryd.ti70 : TI := ⟨1, 8, .int .u64, some (.u64 0), false, false⟩
def Tryd.ti73 : TI := ⟨16, 128, .arr 16 3, some (.agg [.int .i64 0, .int .i64 0, .int .i64 0, .int .i64 0, .int .i64 0, .int .i64 0, .int .i64 0, .int .i64 0, .int .i64 0, .int .i64 0, .int .i64 0, .int .i64 0, .int .i64 0, .int .i64 0, .int .i64 0, .int .i64 0]), true, false⟩
def Tryd.ti74 : TI := ⟨160, 1280, .arr 10 73, some (.agg [.agg [.int .i64 0, .int .i64 0, .int .i64 0, .int .i64 0, .int .i64 0, .int .i64 0, .int .i64 0, .int .i64 0, .int .i64 0, .int .i64 0, .int .i64 0, .int .i64 0, .int .i64 0, .int .i64 0, .int .i64 0, .int .i64 0], .agg [.int .i64 0, .int .i64 0, .int .i64 0, .int .i64 0, .int .i64 0, .int .i64 0, .int .i64 0, .int .i64 0, .int .i64 0, .int .i64 0, .int .i64 0, .int .i64 0, .int .i64 0, .int .i64 0, .int .i64 0, .int .i64 0], .agg [.int .i64 0, .int .i64 0, .int .i64 0, .int .i64 0, .int .i64 0, .int .i64 0, .int .i64 0, .int .i64 0, .int .i64 0, .int .i64 0, .int .i64 0, .int .i64 0, .int .i64 0, .int .i64 0, .int .i64 0, .int .i64 0], .agg [.int .i64 0, .int .i64 0, .int .i64 0, .int .i64 0, .int .i64 0, .int .i64 0, .int .i64 0, .int .i64 0, .int .i64 0, .int .i64 0, .int .i64 0, .int .i64 0, .int .i64 0, .int .i64 0, .int .i64 0, .int .i64 0], .agg [.int .i64 0, .int .i64 0, .int .i64 0, .int .i64 0, .int .i64 0, .int .i64 0, .int .i64 0, .int .i64 0, .int .i64 0, .int .i64 0, .int .i64 0, .int .i64 0, .int .i64 0, .int .i64 0, .int .i64 0, .int .i64 0], .agg [.int .i64 0, .int .i64 0, .int .i64 0, .int .i64 0, .int .i64 0, .int .i64 0, .int .i64 0, .int .i64 0, .int .i64 0, .int .i64 0, .int .i64 0, .int .i64 0, .int .i64 0, .int .i64 0, .int .i64 0, .int .i64 0], .agg [.int .i64 0, .int .i64 0, .int .i64 0, .int .i64 0, .int .i64 0, .int .i64 0, .int .i64 0, .int .i64 0, .int .i64 0, .int .i64 0, .int .i64 0, .int .i64 0, .int .i64 0, .int .i64 0, .int .i64 0, .int .i64 0], .agg [.int .i64 0, .int .i64 0, .int .i64 0, .int .i64 0, .int .i64 0, .int .i64 0, .int .i64 0, .int .i64 0, .int .i64 0, .int .i64 0, .int .i64 0, .int .i64 0, .int .i64 0, .int .i64 0, .int .i64 0, .int .i64 0], .agg [.int .i64 0, .int .i64 0, .int .i64 0, .int .i64 0, .int .i64 0, .int .i64 0, .int .i64 0, .int .i64 0, .int .i64 0, .int .i64 0, .int .i64 0, .int .i64 0, .int .i64 0, .int .i64 0, .int .i64 0, .int .i64 0], .agg [.int .i64 0, .int .i64 0, .int .i64 0, .int .i64 0, .int .i64 0, .int .i64 0, .int .i64 0, .int .i64 0, .int .i64 0, .int .i64 0, .int .i64 0, .int .i64 0, .int .i64 0, .int .i64 0, .int .i64 0, .int .i64 0]]), true, false⟩
def Tryd.ti81 : TI := ⟨12, 12, .arr 12 5, some (.b8 12 [0, 0, 0, 0, 0, 0, 0, 0, 0, 0, 0, 0]), true, false⟩
def Tryd.ti84 : TI := ⟨16, 16, .arr 16 5, some (.b8 16 [0, 0, 0, 0, 0, 0, 0, 0, 0, 0, 0, 0, 0, 0, 0, 0]), true, false⟩
def Tryd.ti90 : TI := ⟨16, 64, .arr 16 24, some (.w32 16 [0, 0, 0, 0, 0, 0, 0, 0, 0, 0, 0, 0, 0, 0, 0, 0]), true, false⟩
def Tryd.ti93 : TI := ⟨1, 8, .ptr 90, some (.raw (.pointer none)), false, false⟩
def Tryd.ti94 : TI := ⟨2, 16, .arr 2 44, some (.w64 2 [0, 0]), true, false⟩
def Tryd.ti95 : TI := ⟨3, 24, .arr 3 44, some (.w64 3 [0, 0, 0]), true, false⟩
def Tryd.ti96 : TI := ⟨24, 80, .str [(0, 94), (2, 94), (4, 95), (7, 84), (23, 3)], some (.agg [.w64 2 [0, 0], .w64 2 [0, 0], .w64 3 [0, 0, 0], .b8 16 [0, 0, 0, 0, 0, 0, 0, 0, 0, 0, 0, 0, 0, 0, 0, 0], .int .i64 0]), true, true⟩
def Tryd.ti97 : TI := ⟨24, 80, .str [(0, 94), (2, 94), (4, 95), (7, 84), (23, 3)], some (.agg [.w64 2 [0, 0], .w64 2 [0, 0], .w64 3 [0, 0, 0], .b8 16 [0, 0, 0, 0, 0, 0, 0, 0, 0, 0, 0, 0, 0, 0, 0, 0], .int .i64 0]), true, true⟩
def Tryd.ti111 : TI := ⟨5, 40, .arr 5 44, some (.w64 5 [0, 0, 0, 0, 0]), true, false⟩
def Tryd.ti114 : TI := ⟨4, 40, .str [(0, 17), (1, 17), (2, 17), (3, 9)], some (.agg [.raw (.pointer none), .raw (.pointer none), .raw (.pointer none), .str []]), false, false⟩
def Tryd.ti115 : TI := ⟨4, 40, .str [(0, 17), (1, 17), (2, 17), (3, 9)], some (.agg [.raw (.pointer none), .raw (.pointer none), .raw (.pointer none), .str []]), false, false⟩
def Tryd.ti116 : TI := ⟨0, 0, .arr 0 16, some (.agg []), false, false⟩
def Tryd.ti117 : TI := ⟨0, 0, .str [(0, 116)], some (.agg []), false, false⟩
def Tryd.ti118 : TI := ⟨0, 0, .str [(0, 116)], some (.agg []), false, false⟩
def Tryd.ti120 : TI := ⟨1, 1, .int .u8, some (.u8 0), false, false⟩
def Tryd.ti121 : TI := ⟨1, 1, .int .u8, some (.u8 0), false, false⟩
def Tryd.ti123 : TI := ⟨1, 8, .ptr 5, some (.raw (.pointer none)), false, false⟩
def Tryd.ti124 : TI := ⟨1, 4, .int .i32, some (.int .i32 0), false, false⟩
def Tryd.ti125 : TI := ⟨1, 4, .int .i32, some (.int .i32 0), false, false⟩
def Tryd.ti126 : TI := ⟨11, 48, .str [(0, 12), (1, 12), (2, 24), (3, 120), (4, 5), (5, 5), (6, 121), (7, 122), (8, 123), (9, 124), (10, 125)], some (.agg [.u64 0, .u64 0, .u32 0, .u8 0, .u8 0, .u8 0, .u8 0, .raw .nilFunc, .raw (.pointer none), .int .i32 0, .int .i32 0]), false, false⟩
def Tryd.ti127 : TI := ⟨11, 48, .str [(0, 12), (1, 12), (2, 24), (3, 120), (4, 5), (5, 5), (6, 121), (7, 122), (8, 123), (9, 124), (10, 125)], some (.agg [.u64 0, .u64 0, .u32 0, .u8 0, .u8 0, .u8 0, .u8 0, .raw .nilFunc, .raw (.pointer none), .int .i32 0, .int .i32 0]), false, false⟩
def Tryd.tis : List (Option TI) := [none, none, some Tryd.ti2, some Tryd.ti3, some Tryd.ti4, some Tryd.ti5, some Tryd.ti6, some Tryd.ti7, some Tryd.ti8, some Tryd.ti9, some Tryd.ti10, some Tryd.ti11, some Tryd.ti12, some Tryd.ti13, some Tryd.ti14, some Tryd.ti15, some Tryd.ti16, some Tryd.ti17, some Tryd.ti18, some Tryd.ti19, none, some Tryd.ti21, some Tryd.ti22, none, some Tryd.ti24, some Tryd.ti25, some Tryd.ti26, some Tryd.ti27, some Tryd.ti28, none, some Tryd.ti30, some Tryd.ti31, none, none, some Tryd.ti34, some Tryd.ti35, none, none, none, none, none, some Tryd.ti41, none, some Tryd.ti43, some Tryd.ti44, some Tryd.ti45, some Tryd.ti46, some Tryd.ti47, some Tryd.ti48, none, none, none, some Tryd.ti52, some Tryd.ti53, none, none, none, some Tryd.ti57, none, none, none, none, some Tryd.ti62, none, none, some Tryd.ti65, none, none, none, some Tryd.ti69, some Tryd.ti70, none, none, some Tryd.ti73, some Tryd.ti74, none, none, none, none, none, none, some Tryd.ti81, none, none, some Tryd.ti84, none, none, none, none, none, some Tryd.ti90, none, none, some Tryd.ti93, some Tryd.ti94, some Tryd.ti95, some Tryd.ti96, some Tryd.ti97, none, none, none, none, none, none, none, none, none, none, none, none, none, some Tryd.ti111, none, none, some Tryd.ti114, some Tryd.ti115, some Tryd.ti116, some Tryd.ti117, some Tryd.ti118, none, some Tryd.ti120, some Tryd.ti121, none, some Tryd.ti123, some Tryd.ti124, some Tryd.ti125, some Tryd.ti126, some Tryd.ti127, none]
theorem Tryd.tisOk : ((List.range Tryd.tis.length).all fun t => match Tryd.tis[t]? with | some (some i) => tiOkB Tryd.prog t i | _ => true) = true := by kernel_rfl
def Tryd.gos : List Nat := [3, 4, 5, 6, 7, 8, 9, 10, 11, 12, 13, 14, 15, 16, 17, 18, 19, 20, 21, 22, 23, 24, 25, 26, 27, 28, 29, 30, 31, 32, 33, 34, 35, 36, 37, 38, 39, 40, 41, 42, 43, 44, 45, 46, 47, 48, 49, 50, 51, 52, 54, 55, 56]
theorem Tryd.gosOk : Tryd.gos.all (goFnB Tryd.prog) = true := by kernel_rfl
def Tryd.xk (f : Nat) : FK := bif f == 53 then FK.add64 else FK.go
theorem Tryd.addOk : ∀ f, Tryd.xk f = .add64 → IsExt Tryd.prog f add64Entry := by
  intro f h
  by_cases e53 : f = 53
  · subst e53; exact fun args w => run_callFunc_extern Tryd.func53 (by kernel_rfl) (by kernel_rfl) (by kernel_rfl) (by kernel_rfl) args w
  have : Tryd.xk f = .go := by
    unfold Tryd.xk
    rw [show (f == 53) = false by simpa using e53]
    rfl
  rw [this] at h; exact absurd h (by decide)
theorem Tryd.subOk : ∀ f, Tryd.xk f = .sub64 → IsExt Tryd.prog f sub64Entry := by
  intro f h
  by_cases e53 : f = 53
  · subst e53; exact absurd h (by decide)
  have : Tryd.xk f = .go := by
    unfold Tryd.xk
    rw [show (f == 53) = false by simpa using e53]
    rfl
  rw [this] at h; exact absurd h (by decide)
def Tryd.gl (g : Nat) : Option (List AV) := bif g == 0 then some [.w32 8 Go.Bla.iv] else bif g == 1 then some [.n64 160 Go.Bla.ordersL] else none
def Tryd.E : Env Tryd.prog where
  ty := fun t => (Tryd.tis[t]?).join
  g := Tryd.gl
  x := Tryd.xk
  go := fun f => Tryd.gos.contains f
  tyOk := tyOk_of Tryd.tisOk
  addOk := Tryd.addOk
  subOk := Tryd.subOk
  goOk := fun f h => goFn_of (List.all_eq_true.1 Tryd.gosOk f (by simpa using h))
  follows := by kernel_rfl
theorem Tryd.E_ty2 : Tryd.E.ty 2 = some ⟨1, 8, .int .i64, some (.int .i64 0), false, false⟩ := rfl
theorem Tryd.E_ty3 : Tryd.E.ty 3 = some ⟨1, 8, .int .i64, some (.int .i64 0), false, false⟩ := rfl
theorem Tryd.E_ty4 : Tryd.E.ty 4 = some ⟨1, 1, .bool, some (.bool false), false, false⟩ := rfl
theorem Tryd.E_ty5 : Tryd.E.ty 5 = some ⟨1, 1, .int .u8, some (.u8 0), false, false⟩ := rfl
theorem Tryd.E_ty6 : Tryd.E.ty 6 = some ⟨1, 1, .int .u8, some (.u8 0), false, false⟩ := rfl
theorem Tryd.E_ty7 : Tryd.E.ty 7 = some ⟨4, 24, .str [(0, 2), (1, 3), (2, 4), (3, 6)], some (.agg [.int .i64 0, .int .i64 0, .bool false, .u8 0]), false, false⟩ := rfl
theorem Tryd.E_ty8 : Tryd.E.ty 8 = some ⟨4, 24, .str [(0, 2), (1, 3), (2, 4), (3, 6)], some (.agg [.int .i64 0, .int .i64 0, .bool false, .u8 0]), false, false⟩ := rfl
theorem Tryd.E_ty9 : Tryd.E.ty 9 = some ⟨1, 16, .string, some (.str []), false, false⟩ := rfl
theorem Tryd.E_ty10 : Tryd.E.ty 10 = some ⟨1, 16, .string, some (.str []), false, false⟩ := rfl
theorem Tryd.E_ty11 : Tryd.E.ty 11 = some ⟨1, 16, .string, some (.str []), false, false⟩ := rfl
theorem Tryd.E_ty12 : Tryd.E.ty 12 = some ⟨1, 8, .int .u64, some (.u64 0), false, false⟩ := rfl
theorem Tryd.E_ty13 : Tryd.E.ty 13 = some ⟨2, 24, .str [(0, 9), (1, 12)], some (.agg [.str [], .u64 0]), false, false⟩ := rfl
theorem Tryd.E_ty14 : Tryd.E.ty 14 = some ⟨2, 24, .str [(0, 9), (1, 12)], some (.agg [.str [], .u64 0]), false, false⟩ := rfl
theorem Tryd.E_ty15 : Tryd.E.ty 15 = some ⟨1, 8, .ptr 115, some (.raw (.pointer none)), false, false⟩ := rfl
theorem Tryd.E_ty16 : Tryd.E.ty 16 = some ⟨1, 8, .ptr 118, some (.raw (.pointer none)), false, false⟩ := rfl
theorem Tryd.E_ty17 : Tryd.E.ty 17 = some ⟨1, 8, .ptr 127, some (.raw (.pointer none)), false, false⟩ := rfl
theorem Tryd.E_ty18 : Tryd.E.ty 18 = some ⟨1, 8, .str [(0, 17)], some (.agg [.raw (.pointer none)]), false, false⟩ := rfl
theorem Tryd.E_ty19 : Tryd.E.ty 19 = some ⟨1, 8, .str [(0, 17)], some (.agg [.raw (.pointer none)]), false, false⟩ := rfl
theorem Tryd.E_ty21 : Tryd.E.ty 21 = some ⟨1, 4, .int .i32, some (.int .i32 0), false, false⟩ := rfl
theorem Tryd.E_ty22 : Tryd.E.ty 22 = some ⟨1, 24, .slice 5, some (.vec8 true []), false, false⟩ := rfl
theorem Tryd.E_ty24 : Tryd.E.ty 24 = some ⟨1, 4, .int .u32, some (.u32 0), false, false⟩ := rfl
theorem Tryd.E_ty25 : Tryd.E.ty 25 = some ⟨8, 32, .arr 8 24, some (.w32 8 [0, 0, 0, 0, 0, 0, 0, 0]), true, false⟩ := rfl
theorem Tryd.E_ty26 : Tryd.E.ty 26 = some ⟨64, 64, .arr 64 5, some (.b8 64 (List.replicate 64 0)), true, false⟩ := rfl
theorem Tryd.E_ty27 : Tryd.E.ty 27 = some ⟨74, 112, .str [(0, 25), (8, 26), (72, 3), (73, 3)], some (.agg [.w32 8 [0, 0, 0, 0, 0, 0, 0, 0], .b8 64 (List.replicate 64 0), .int .i64 0, .int .i64 0]), true, true⟩ := rfl
theorem Tryd.E_ty28 : Tryd.E.ty 28 = some ⟨74, 112, .str [(0, 25), (8, 26), (72, 3), (73, 3)], some (.agg [.w32 8 [0, 0, 0, 0, 0, 0, 0, 0], .b8 64 (List.replicate 64 0), .int .i64 0, .int .i64 0]), true, true⟩ := rfl
theorem Tryd.E_ty30 : Tryd.E.ty 30 = some ⟨1, 24, .slice 22, some (.vec true 1 []), false, false⟩ := rfl
theorem Tryd.E_ty31 : Tryd.E.ty 31 = some ⟨1, 8, .int .i64, some (.int .i64 0), false, false⟩ := rfl
theorem Tryd.E_ty34 : Tryd.E.ty 34 = some ⟨32, 32, .arr 32 5, some (.b8 32 [0, 0, 0, 0, 0, 0, 0, 0, 0, 0, 0, 0, 0, 0, 0, 0, 0, 0, 0, 0, 0, 0, 0, 0, 0, 0, 0, 0, 0, 0, 0, 0]), true, false⟩ := rfl
theorem Tryd.E_ty35 : Tryd.E.ty 35 = some ⟨32, 32, .arr 32 5, some (.b8 32 [0, 0, 0, 0, 0, 0, 0, 0, 0, 0, 0, 0, 0, 0, 0, 0, 0, 0, 0, 0, 0, 0, 0, 0, 0, 0, 0, 0, 0, 0, 0, 0]), true, false⟩ := rfl
theorem Tryd.E_ty41 : Tryd.E.ty 41 = some ⟨1, 24, .slice 9, some (.vec true 1 []), false, false⟩ := rfl
theorem Tryd.E_ty43 : Tryd.E.ty 43 = some ⟨1, 24, .slice 53, some (.vec true 4 []), false, false⟩ := rfl
theorem Tryd.E_ty44 : Tryd.E.ty 44 = some ⟨1, 8, .int .u64, some (.u64 0), false, false⟩ := rfl
theorem Tryd.E_ty45 : Tryd.E.ty 45 = some ⟨34, 48, .str [(0, 4), (1, 35), (33, 44)], some (.agg [.bool false, .b8 32 [0, 0, 0, 0, 0, 0, 0, 0, 0, 0, 0, 0, 0, 0, 0, 0, 0, 0, 0, 0, 0, 0, 0, 0, 0, 0, 0, 0, 0, 0, 0, 0], .u64 0]), true, true⟩ := rfl
theorem Tryd.E_ty46 : Tryd.E.ty 46 = some ⟨34, 48, .str [(0, 4), (1, 35), (33, 44)], some (.agg [.bool false, .b8 32 [0, 0, 0, 0, 0, 0, 0, 0, 0, 0, 0, 0, 0, 0, 0, 0, 0, 0, 0, 0, 0, 0, 0, 0, 0, 0, 0, 0, 0, 0, 0, 0], .u64 0]), true, true⟩ := rfl
theorem Tryd.E_ty47 : Tryd.E.ty 47 = some ⟨98, 112, .str [(0, 46), (34, 35), (66, 35)], some (.agg [.agg [.bool false, .b8 32 [0, 0, 0, 0, 0, 0, 0, 0, 0, 0, 0, 0, 0, 0, 0, 0, 0, 0, 0, 0, 0, 0, 0, 0, 0, 0, 0, 0, 0, 0, 0, 0], .u64 0], .b8 32 [0, 0, 0, 0, 0, 0, 0, 0, 0, 0, 0, 0, 0, 0, 0, 0, 0, 0, 0, 0, 0, 0, 0, 0, 0, 0, 0, 0, 0, 0, 0, 0], .b8 32 [0, 0, 0, 0, 0, 0, 0, 0, 0, 0, 0, 0, 0, 0, 0, 0, 0, 0, 0, 0, 0, 0, 0, 0, 0, 0, 0, 0, 0, 0, 0, 0]]), true, true⟩ := rfl
theorem Tryd.E_ty48 : Tryd.E.ty 48 = some ⟨98, 112, .str [(0, 46), (34, 35), (66, 35)], some (.agg [.agg [.bool false, .b8 32 [0, 0, 0, 0, 0, 0, 0, 0, 0, 0, 0, 0, 0, 0, 0, 0, 0, 0, 0, 0, 0, 0, 0, 0, 0, 0, 0, 0, 0, 0, 0, 0], .u64 0], .b8 32 [0, 0, 0, 0, 0, 0, 0, 0, 0, 0, 0, 0, 0, 0, 0, 0, 0, 0, 0, 0, 0, 0, 0, 0, 0, 0, 0, 0, 0, 0, 0, 0], .b8 32 [0, 0, 0, 0, 0, 0, 0, 0, 0, 0, 0, 0, 0, 0, 0, 0, 0, 0, 0, 0, 0, 0, 0, 0, 0, 0, 0, 0, 0, 0, 0, 0]]), true, true⟩ := rfl
theorem Tryd.E_ty52 : Tryd.E.ty 52 = some ⟨4, 40, .str [(0, 3), (1, 3), (2, 3), (3, 9)], some (.agg [.int .i64 0, .int .i64 0, .int .i64 0, .str []]), true, true⟩ := rfl
theorem Tryd.E_ty53 : Tryd.E.ty 53 = some ⟨4, 40, .str [(0, 3), (1, 3), (2, 3), (3, 9)], some (.agg [.int .i64 0, .int .i64 0, .int .i64 0, .str []]), true, true⟩ := rfl
theorem Tryd.E_ty57 : Tryd.E.ty 57 = some ⟨68, 96, .arr 2 46, some (.agg [.agg [.bool false, .b8 32 [0, 0, 0, 0, 0, 0, 0, 0, 0, 0, 0, 0, 0, 0, 0, 0, 0, 0, 0, 0, 0, 0, 0, 0, 0, 0, 0, 0, 0, 0, 0, 0], .u64 0], .agg [.bool false, .b8 32 [0, 0, 0, 0, 0, 0, 0, 0, 0, 0, 0, 0, 0, 0, 0, 0, 0, 0, 0, 0, 0, 0, 0, 0, 0, 0, 0, 0, 0, 0, 0, 0], .u64 0]]), true, false⟩ := rfl
theorem Tryd.E_ty62 : Tryd.E.ty 62 = some ⟨64, 64, .arr 2 35, some (.agg [.b8 32 [0, 0, 0, 0, 0, 0, 0, 0, 0, 0, 0, 0, 0, 0, 0, 0, 0, 0, 0, 0, 0, 0, 0, 0, 0, 0, 0, 0, 0, 0, 0, 0], .b8 32 [0, 0, 0, 0, 0, 0, 0, 0, 0, 0, 0, 0, 0, 0, 0, 0, 0, 0, 0, 0, 0, 0, 0, 0, 0, 0, 0, 0, 0, 0, 0, 0]]), true, false⟩ := rfl
theorem Tryd.E_ty65 : Tryd.E.ty 65 = some ⟨96, 96, .arr 3 35, some (.agg [.b8 32 [0, 0, 0, 0, 0, 0, 0, 0, 0, 0, 0, 0, 0, 0, 0, 0, 0, 0, 0, 0, 0, 0, 0, 0, 0, 0, 0, 0, 0, 0, 0, 0], .b8 32 [0, 0, 0, 0, 0, 0, 0, 0, 0, 0, 0, 0, 0, 0, 0, 0, 0, 0, 0, 0, 0, 0, 0, 0, 0, 0, 0, 0, 0, 0, 0, 0], .b8 32 [0, 0, 0, 0, 0, 0, 0, 0, 0, 0, 0, 0, 0, 0, 0, 0, 0, 0, 0, 0, 0, 0, 0, 0, 0, 0, 0, 0, 0, 0, 0, 0]]), true, false⟩ := rfl
theorem Tryd.E_ty69 : Tryd.E.ty 69 = some ⟨16, 64, .arr 16 24, some (.w32 16 [0, 0, 0, 0, 0, 0, 0, 0, 0, 0, 0, 0, 0, 0, 0, 0]), true, false⟩ := rfl
theorem Tryd.E_ty70 : Tryd.E.ty 70 = some ⟨1, 8, .int .u64, some (.u64 0), false, false⟩ := rfl
theorem Tryd.E_ty73 : Tryd.E.ty 73 = some ⟨16, 128, .arr 16 3, some (.agg [.int .i64 0, .int .i64 0, .int .i64 0, .int .i64 0, .int .i64 0, .int .i64 0, .int .i64 0, .int .i64 0, .int .i64 0, .int .i64 0, .int .i64 0, .int .i64 0, .int .i64 0, .int .i64 0, .int .i64 0, .int .i64 0]), true, false⟩ := rfl
theorem Tryd.E_ty74 : Tryd.E.ty 74 = some ⟨160, 1280, .arr 10 73, some (.agg [.agg [.int .i64 0, .int .i64 0, .int .i64 0, .int .i64 0, .int .i64 0, .int .i64 0, .int .i64 0, .int .i64 0, .int .i64 0, .int .i64 0, .int .i64 0, .int .i64 0, .int .i64 0, .int .i64 0, .int .i64 0, .int .i64 0], .agg [.int .i64 0, .int .i64 0, .int .i64 0, .int .i64 0, .int .i64 0, .int .i64 0, .int .i64 0, .int .i64 0, .int .i64 0, .int .i64 0, .int .i64 0, .int .i64 0, .int .i64 0, .int .i64 0, .int .i64 0, .int .i64 0], .agg [.int .i64 0, .int .i64 0, .int .i64 0, .int .i64 0, .int .i64 0, .int .i64 0, .int .i64 0, .int .i64 0, .int .i64 0, .int .i64 0, .int .i64 0, .int .i64 0, .int .i64 0, .int .i64 0, .int .i64 0, .int .i64 0], .agg [.int .i64 0, .int .i64 0, .int .i64 0, .int .i64 0, .int .i64 0, .int .i64 0, .int .i64 0, .int .i64 0, .int .i64 0, .int .i64 0, .int .i64 0, .int .i64 0, .int .i64 0, .int .i64 0, .int .i64 0, .int .i64 0], .agg [.int .i64 0, .int .i64 0, .int .i64 0, .int .i64 0, .int .i64 0, .int .i64 0, .int .i64 0, .int .i64 0, .int .i64 0, .int .i64 0, .int .i64 0, .int .i64 0, .int .i64 0, .int .i64 0, .int .i64 0, .int .i64 0], .agg [.int .i64 0, .int .i64 0, .int .i64 0, .int .i64 0, .int .i64 0, .int .i64 0, .int .i64 0, .int .i64 0, .int .i64 0, .int .i64 0, .int .i64 0, .int .i64 0, .int .i64 0, .int .i64 0, .int .i64 0, .int .i64 0], .agg [.int .i64 0, .int .i64 0, .int .i64 0, .int .i64 0, .int .i64 0, .int .i64 0, .int .i64 0, .int .i64 0, .int .i64 0, .int .i64 0, .int .i64 0, .int .i64 0, .int .i64 0, .int .i64 0, .int .i64 0, .int .i64 0], .agg [.int .i64 0, .int .i64 0, .int .i64 0, .int .i64 0, .int .i64 0, .int .i64 0, .int .i64 0, .int .i64 0, .int .i64 0, .int .i64 0, .int .i64 0, .int .i64 0, .int .i64 0, .int .i64 0, .int .i64 0, .int .i64 0], .agg [.int .i64 0, .int .i64 0, .int .i64 0, .int .i64 0, .int .i64 0, .int .i64 0, .int .i64 0, .int .i64 0, .int .i64 0, .int .i64 0, .int .i64 0, .int .i64 0, .int .i64 0, .int .i64 0, .int .i64 0, .int .i64 0], .agg [.int .i64 0, .int .i64 0, .int .i64 0, .int .i64 0, .int .i64 0, .int .i64 0, .int .i64 0, .int .i64 0, .int .i64 0, .int .i64 0, .int .i64 0, .int .i64 0, .int .i64 0, .int .i64 0, .int .i64 0, .int .i64 0]]), true, false⟩ := rfl
theorem Tryd.E_ty81 : Tryd.E.ty 81 = some ⟨12, 12, .arr 12 5, some (.b8 12 [0, 0, 0, 0, 0, 0, 0, 0, 0, 0, 0, 0]), true, false⟩ := rfl
theorem Tryd.E_ty84 : Tryd.E.ty 84 = some ⟨16, 16, .arr 16 5, some (.b8 16 [0, 0, 0, 0, 0, 0, 0, 0, 0, 0, 0, 0, 0, 0, 0, 0]), true, false⟩ := rfl
theorem Tryd.E_ty90 : Tryd.E.ty 90 = some ⟨16, 64, .arr 16 24, some (.w32 16 [0, 0, 0, 0, 0, 0, 0, 0, 0, 0, 0, 0, 0, 0, 0, 0]), true, false⟩ := rfl
theorem Tryd.E_ty93 : Tryd.E.ty 93 = some ⟨1, 8, .ptr 90, some (.raw (.pointer none)), false, false⟩ := rfl
theorem Tryd.E_ty94 : Tryd.E.ty 94 = some ⟨2, 16, .arr 2 44, some (.w64 2 [0, 0]), true, false⟩ := rfl
theorem Tryd.E_ty95 : Tryd.E.ty 95 = some ⟨3, 24, .arr 3 44, some (.w64 3 [0, 0, 0]), true, false⟩ := rfl
theorem Tryd.E_ty96 : Tryd.E.ty 96 = some ⟨24, 80, .str [(0, 94), (2, 94), (4, 95), (7, 84), (23, 3)], some (.agg [.w64 2 [0, 0], .w64 2 [0, 0], .w64 3 [0, 0, 0], .b8 16 [0, 0, 0, 0, 0, 0, 0, 0, 0, 0, 0, 0, 0, 0, 0, 0], .int .i64 0]), true, true⟩ := rfl
theorem Tryd.E_ty97 : Tryd.E.ty 97 = some ⟨24, 80, .str [(0, 94), (2, 94), (4, 95), (7, 84), (23, 3)], some (.agg [.w64 2 [0, 0], .w64 2 [0, 0], .w64 3 [0, 0, 0], .b8 16 [0, 0, 0, 0, 0, 0, 0, 0, 0, 0, 0, 0, 0, 0, 0, 0], .int .i64 0]), true, true⟩ := rfl
theorem Tryd.E_ty111 : Tryd.E.ty 111 = some ⟨5, 40, .arr 5 44, some (.w64 5 [0, 0, 0, 0, 0]), true, false⟩ := rfl
theorem Tryd.E_ty114 : Tryd.E.ty 114 = some ⟨4, 40, .str [(0, 17), (1, 17), (2, 17), (3, 9)], some (.agg [.raw (.pointer none), .raw (.pointer none), .raw (.pointer none), .str []]), false, false⟩ := rfl
theorem Tryd.E_ty115 : Tryd.E.ty 115 = some ⟨4, 40, .str [(0, 17), (1, 17), (2, 17), (3, 9)], some (.agg [.raw (.pointer none), .raw (.pointer none), .raw (.pointer none), .str []]), false, false⟩ := rfl
theorem Tryd.E_ty116 : Tryd.E.ty 116 = some ⟨0, 0, .arr 0 16, some (.agg []), false, false⟩ := rfl
theorem Tryd.E_ty117 : Tryd.E.ty 117 = some ⟨0, 0, .str [(0, 116)], some (.agg []), false, false⟩ := rfl
theorem Tryd.E_ty118 : Tryd.E.ty 118 = some ⟨0, 0, .str [(0, 116)], some (.agg []), false, false⟩ := rfl
theorem Tryd.E_ty120 : Tryd.E.ty 120 = some ⟨1, 1, .int .u8, some (.u8 0), false, false⟩ := rfl
theorem Tryd.E_ty121 : Tryd.E.ty 121 = some ⟨1, 1, .int .u8, some (.u8 0), false, false⟩ := rfl
theorem Tryd.E_ty123 : Tryd.E.ty 123 = some ⟨1, 8, .ptr 5, some (.raw (.pointer none)), false, false⟩ := rfl
theorem Tryd.E_ty124 : Tryd.E.ty 124 = some ⟨1, 4, .int .i32, some (.int .i32 0), false, false⟩ := rfl
theorem Tryd.E_ty125 : Tryd.E.ty 125 = some ⟨1, 4, .int .i32, some (.int .i32 0), false, false⟩ := rfl
theorem Tryd.E_ty126 : Tryd.E.ty 126 = some ⟨11, 48, .str [(0, 12), (1, 12), (2, 24), (3, 120), (4, 5), (5, 5), (6, 121), (7, 122), (8, 123), (9, 124), (10, 125)], some (.agg [.u64 0, .u64 0, .u32 0, .u8 0, .u8 0, .u8 0, .u8 0, .raw .nilFunc, .raw (.pointer none), .int .i32 0, .int .i32 0]), false, false⟩ := rfl
theorem Tryd.E_ty127 : Tryd.E.ty 127 = some ⟨11, 48, .str [(0, 12), (1, 12), (2, 24), (3, 120), (4, 5), (5, 5), (6, 121), (7, 122), (8, 123), (9, 124), (10, 125)], some (.agg [.u64 0, .u64 0, .u32 0, .u8 0, .u8 0, .u8 0, .u8 0, .raw .nilFunc, .raw (.pointer none), .int .i32 0, .int .i32 0]), false, false⟩ := rfl
theorem Tryd.E_go3 : Tryd.E.go 3 = true := rfl
theorem Tryd.E_go4 : Tryd.E.go 4 = true := rfl
theorem Tryd.E_go5 : Tryd.E.go 5 = true := rfl
theorem Tryd.E_go6 : Tryd.E.go 6 = true := rfl
theorem Tryd.E_go7 : Tryd.E.go 7 = true := rfl
theorem Tryd.E_go8 : Tryd.E.go 8 = true := rfl
theorem Tryd.E_go9 : Tryd.E.go 9 = true := rfl
theorem Tryd.E_go10 : Tryd.E.go 10 = true := rfl
theorem Tryd.E_go11 : Tryd.E.go 11 = true := rfl
theorem Tryd.E_go12 : Tryd.E.go 12 = true := rfl
theorem Tryd.E_go13 : Tryd.E.go 13 = true := rfl
theorem Tryd.E_go14 : Tryd.E.go 14 = true := rfl
theorem Tryd.E_go15 : Tryd.E.go 15 = true := rfl
theorem Tryd.E_go16 : Tryd.E.go 16 = true := rfl
theorem Tryd.E_go17 : Tryd.E.go 17 = true := rfl
theorem Tryd.E_go18 : Tryd.E.go 18 = true := rfl
theorem Tryd.E_go19 : Tryd.E.go 19 = true := rfl
theorem Tryd.E_go20 : Tryd.E.go 20 = true := rfl
theorem Tryd.E_go21 : Tryd.E.go 21 = true := rfl
theorem Tryd.E_go22 : Tryd.E.go 22 = true := rfl
theorem Tryd.E_go23 : Tryd.E.go 23 = true := rfl
theorem Tryd.E_go24 : Tryd.E.go 24 = true := rfl
theorem Tryd.E_go25 : Tryd.E.go 25 = true := rfl
theorem Tryd.E_go26 : Tryd.E.go 26 = true := rfl
theorem Tryd.E_go27 : Tryd.E.go 27 = true := rfl
theorem Tryd.E_go28 : Tryd.E.go 28 = true := rfl
theorem Tryd.E_go29 : Tryd.E.go 29 = true := rfl
theorem Tryd.E_go30 : Tryd.E.go 30 = true := rfl
theorem Tryd.E_go31 : Tryd.E.go 31 = true := rfl
theorem Tryd.E_go32 : Tryd.E.go 32 = true := rfl
theorem Tryd.E_go33 : Tryd.E.go 33 = true := rfl
theorem Tryd.E_go34 : Tryd.E.go 34 = true := rfl
theorem Tryd.E_go35 : Tryd.E.go 35 = true := rfl
theorem Tryd.E_go36 : Tryd.E.go 36 = true := rfl
theorem Tryd.E_go37 : Tryd.E.go 37 = true := rfl
theorem Tryd.E_go38 : Tryd.E.go 38 = true := rfl
theorem Tryd.E_go39 : Tryd.E.go 39 = true := rfl
theorem Tryd.E_go40 : Tryd.E.go 40 = true := rfl
theorem Tryd.E_go41 : Tryd.E.go 41 = true := rfl
theorem Tryd.E_go42 : Tryd.E.go 42 = true := rfl
theorem Tryd.E_go43 : Tryd.E.go 43 = true := rfl
theorem Tryd.E_go44 : Tryd.E.go 44 = true := rfl
theorem Tryd.E_go45 : Tryd.E.go 45 = true := rfl
theorem Tryd.E_go46 : Tryd.E.go 46 = true := rfl
theorem Tryd.E_go47 : Tryd.E.go 47 = true := rfl
theorem Tryd.E_go48 : Tryd.E.go 48 = true := rfl
theorem Tryd.E_go49 : Tryd.E.go 49 = true := rfl
theorem Tryd.E_go50 : Tryd.E.go 50 = true := rfl
theorem Tryd.E_go51 : Tryd.E.go 51 = true := rfl
theorem Tryd.E_go52 : Tryd.E.go 52 = true := rfl
theorem Tryd.E_go54 : Tryd.E.go 54 = true := rfl
theorem Tryd.E_go55 : Tryd.E.go 55 = true := rfl
theorem Tryd.E_go56 : Tryd.E.go 56 = true := rfl
theorem Tryd.E_x3 : Tryd.E.x 3 = .go := rfl
theorem Tryd.E_x4 : Tryd.E.x 4 = .go := rfl
theorem Tryd.E_x5 : Tryd.E.x 5 = .go := rfl
theorem Tryd.E_x6 : Tryd.E.x 6 = .go := rfl
theorem Tryd.E_x7 : Tryd.E.x 7 = .go := rfl
theorem Tryd.E_x8 : Tryd.E.x 8 = .go := rfl
theorem Tryd.E_x9 : Tryd.E.x 9 = .go := rfl
theorem Tryd.E_x10 : Tryd.E.x 10 = .go := rfl
theorem Tryd.E_x11 : Tryd.E.x 11 = .go := rfl
theorem Tryd.E_x12 : Tryd.E.x 12 = .go := rfl
theorem Tryd.E_x13 : Tryd.E.x 13 = .go := rfl
theorem Tryd.E_x14 : Tryd.E.x 14 = .go := rfl
theorem Tryd.E_x15 : Tryd.E.x 15 = .go := rfl
theorem Tryd.E_x16 : Tryd.E.x 16 = .go := rfl
theorem Tryd.E_x17 : Tryd.E.x 17 = .go := rfl
theorem Tryd.E_x18 : Tryd.E.x 18 = .go := rfl
theorem Tryd.E_x19 : Tryd.E.x 19 = .go := rfl
theorem Tryd.E_x20 : Tryd.E.x 20 = .go := rfl
theorem Tryd.E_x21 : Tryd.E.x 21 = .go := rfl
theorem Tryd.E_x22 : Tryd.E.x 22 = .go := rfl
theorem Tryd.E_x23 : Tryd.E.x 23 = .go := rfl
theorem Tryd.E_x24 : Tryd.E.x 24 = .go := rfl
theorem Tryd.E_x25 : Tryd.E.x 25 = .go := rfl
theorem Tryd.E_x26 : Tryd.E.x 26 = .go := rfl
theorem Tryd.E_x27 : Tryd.E.x 27 = .go := rfl
theorem Tryd.E_x28 : Tryd.E.x 28 = .go := rfl
theorem Tryd.E_x29 : Tryd.E.x 29 = .go := rfl
theorem Tryd.E_x30 : Tryd.E.x 30 = .go := rfl
theorem Tryd.E_x31 : Tryd.E.x 31 = .go := rfl
theorem Tryd.E_x32 : Tryd.E.x 32 = .go := rfl
theorem Tryd.E_x33 : Tryd.E.x 33 = .go := rfl
theorem Tryd.E_x34 : Tryd.E.x 34 = .go := rfl
theorem Tryd.E_x35 : Tryd.E.x 35 = .go := rfl
theorem Tryd.E_x36 : Tryd.E.x 36 = .go := rfl
theorem Tryd.E_x37 : Tryd.E.x 37 = .go := rfl
theorem Tryd.E_x38 : Tryd.E.x 38 = .go := rfl
theorem Tryd.E_x39 : Tryd.E.x 39 = .go := rfl
theorem Tryd.E_x40 : Tryd.E.x 40 = .go := rfl
theorem Tryd.E_x41 : Tryd.E.x 41 = .go := rfl
theorem Tryd.E_x42 : Tryd.E.x 42 = .go := rfl
theorem Tryd.E_x43 : Tryd.E.x 43 = .go := rfl
theorem Tryd.E_x44 : Tryd.E.x 44 = .go := rfl
theorem Tryd.E_x45 : Tryd.E.x 45 = .go := rfl
theorem Tryd.E_x46 : Tryd.E.x 46 = .go := rfl
theorem Tryd.E_x47 : Tryd.E.x 47 = .go := rfl
theorem Tryd.E_x48 : Tryd.E.x 48 = .go := rfl
theorem Tryd.E_x49 : Tryd.E.x 49 = .go := rfl
theorem Tryd.E_x50 : Tryd.E.x 50 = .go := rfl
theorem Tryd.E_x51 : Tryd.E.x 51 = .go := rfl
theorem Tryd.E_x52 : Tryd.E.x 52 = .go := rfl
theorem Tryd.E_x53 : Tryd.E.x 53 = .add64 := rfl
theorem Tryd.E_x54 : Tryd.E.x 54 = .go := rfl
theorem Tryd.E_x55 : Tryd.E.x 55 = .go := rfl
theorem Tryd.E_x56 : Tryd.E.x 56 = .go := rfl
theorem Tryd.E_g0 {t : List AV} : evA Tryd.E t (.global 0) = .vp [.w32 8 Go.Bla.iv] 0 := rfl
theorem Tryd.E_g1 {t : List AV} : evA Tryd.E t (.global 1) = .vp [.n64 160 Go.Bla.ordersL] 0 := rfl
-- Tryd.ti2 Tryd.E_ty2 Tryd.ti3 Tryd.E_ty3 Tryd.ti4 Tryd.E_ty4 Tryd.ti5 Tryd.E_ty5
-- Tryd.ti6 Tryd.E_ty6 Tryd.ti7 Tryd.E_ty7 Tryd.ti8 Tryd.E_ty8 Tryd.ti9 Tryd.E_ty9
-- Tryd.ti10 Tryd.E_ty10 Tryd.ti11 Tryd.E_ty11 Tryd.ti12 Tryd.E_ty12 Tryd.ti13 Tryd.E_ty13
-- Tryd.ti14 Tryd.E_ty14 Tryd.ti15 Tryd.E_ty15 Tryd.ti16 Tryd.E_ty16 Tryd.ti17 Tryd.E_ty17
-- Tryd.ti18 Tryd.E_ty18 Tryd.ti19 Tryd.E_ty19 Tryd.ti21 Tryd.E_ty21 Tryd.ti22 Tryd.E_ty22
-- Tryd.ti24 Tryd.E_ty24 Tryd.ti25 Tryd.E_ty25 Tryd.ti26 Tryd.E_ty26 Tryd.ti27 Tryd.E_ty27
-- Tryd.ti28 Tryd.E_ty28 Tryd.ti30 Tryd.E_ty30 Tryd.ti31 Tryd.E_ty31 Tryd.ti34 Tryd.E_ty34
-- Tryd.ti35 Tryd.E_ty35 Tryd.ti41 Tryd.E_ty41 Tryd.ti43 Tryd.E_ty43 Tryd.ti44 Tryd.E_ty44
-- Tryd.ti45 Tryd.E_ty45 Tryd.ti46 Tryd.E_ty46 Tryd.ti47 Tryd.E_ty47 Tryd.ti48 Tryd.E_ty48
-- Tryd.ti52 Tryd.E_ty52 Tryd.ti53 Tryd.E_ty53 Tryd.ti57 Tryd.E_ty57 Tryd.ti62 Tryd.E_ty62
-- Tryd.ti65 Tryd.E_ty65 Tryd.ti69 Tryd.E_ty69 Tryd.ti70 Tryd.E_ty70 Tryd.ti73 Tryd.E_ty73
-- Tryd.ti74 Tryd.E_ty74 Tryd.ti81 Tryd.E_ty81 Tryd.ti84 Tryd.E_ty84 Tryd.ti90 Tryd.E_ty90
-- Tryd.ti93 Tryd.E_ty93 Tryd.ti94 Tryd.E_ty94 Tryd.ti95 Tryd.E_ty95 Tryd.ti96 Tryd.E_ty96
-- Tryd.ti97 Tryd.E_ty97 Tryd.ti111 Tryd.E_ty111 Tryd.ti114 Tryd.E_ty114 Tryd.ti115 Tryd.E_ty115
-- Tryd.ti116 Tryd.E_ty116 Tryd.ti117 Tryd.E_ty117 Tryd.ti118 Tryd.E_ty118 Tryd.ti120 Tryd.E_ty120
-- Tryd.ti121 Tryd.E_ty121 Tryd.ti123 Tryd.E_ty123 Tryd.ti124 Tryd.E_ty124 Tryd.ti125 Tryd.E_ty125
-- Tryd.ti126 Tryd.E_ty126 Tryd.ti127 Tryd.E_ty127 Tryd.E_go3 Tryd.E_go4 Tryd.E_go5 Tryd.E_go6
-- Tryd.E_go7 Tryd.E_go8 Tryd.E_go9 Tryd.E_go10 Tryd.E_go11 Tryd.E_go12 Tryd.E_go13 Tryd.E_go14
-- Tryd.E_go15 Tryd.E_go16 Tryd.E_go17 Tryd.E_go18 Tryd.E_go19 Tryd.E_go20 Tryd.E_go21 Tryd.E_go22
-- Tryd.E_go23 Tryd.E_go24 Tryd.E_go25 Tryd.E_go26 Tryd.E_go27 Tryd.E_go28 Tryd.E_go29 Tryd.E_go30
-- Tryd.E_go31 Tryd.E_go32 Tryd.E_go33 Tryd.E_go34 Tryd.E_go35 Tryd.E_go36 Tryd.E_go37 Tryd.E_go38
-- Tryd.E_go39 Tryd.E_go40 Tryd.E_go41 Tryd.E_go42 Tryd.E_go43 Tryd.E_go44 Tryd.E_go45 Tryd.E_go46
-- Tryd.E_go47 Tryd.E_go48 Tryd.E_go49 Tryd.E_go50 Tryd.E_go51 Tryd.E_go52 Tryd.E_go54 Tryd.E_go55
-- Tryd.E_go56 Tryd.E_x3 Tryd.E_x4 Tryd.E_x5 Tryd.E_x6 Tryd.E_x7 Tryd.E_x8 Tryd.E_x9
-- Tryd.E_x10 Tryd.E_x11 Tryd.E_x12 Tryd.E_x13 Tryd.E_x14 Tryd.E_x15 Tryd.E_x16 Tryd.E_x17
-- Tryd.E_x18 Tryd.E_x19 Tryd.E_x20 Tryd.E_x21 Tryd.E_x22 Tryd.E_x23 Tryd.E_x24 Tryd.E_x25
-- Tryd.E_x26 Tryd.E_x27 Tryd.E_x28 Tryd.E_x29 Tryd.E_x30 Tryd.E_x31 Tryd.E_x32 Tryd.E_x33
-- Tryd.E_x34 Tryd.E_x35 Tryd.E_x36 Tryd.E_x37 Tryd.E_x38 Tryd.E_x39 Tryd.E_x40 Tryd.E_x41
-- Tryd.E_x42 Tryd.E_x43 Tryd.E_x44 Tryd.E_x45 Tryd.E_x46 Tryd.E_x47 Tryd.E_x48 Tryd.E_x49
-- Tryd.E_x50 Tryd.E_x51 Tryd.E_x52 Tryd.E_x53 Tryd.E_x54 Tryd.E_x55 Tryd.E_x56 Tryd.E_g0
-- Tryd.E_g1
end Go.Proofs
