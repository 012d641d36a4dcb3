/- This seat's translation as the abstract layer knows it (wip tools env.py): types, functions, package-level variables. -/
import Derived.Test.YtcnnogimaikicaaDoorProg
import Derived.Test.YtcnnogimaikicaaDoorW2
import Derived.KernelRfl

set_option linter.unusedSimpArgs false
set_option linter.unusedVariables false
namespace Go.Proofs
open Go Go.V

def Tryd.ti1 : TI := ⟨1, 8, .other, some (.raw .nilFunc), false, false⟩
def Tryd.ti2 : TI := ⟨1, 8, .int .i64, some (.int .i64 0), false, false⟩
def Tryd.ti3 : TI := ⟨1, 8, .int .i64, some (.int .i64 0), false, false⟩
def Tryd.ti4 : TI := ⟨1, 1, .bool, some (.bool false), false, false⟩
def Tryd.ti5 : TI := ⟨1, 1, .int .u8, some (.u8 0), false, false⟩
def Tryd.ti6 : TI := ⟨1, 1, .int .u8, some (.u8 0), false, false⟩
def Tryd.ti7 : TI := ⟨4, 24, .str [(0, 2), (1, 3), (2, 4), (3, 6)], some (.agg [.int .i64 0, .int .i64 0, .bool false, .u8 0]), false, false⟩
def Tryd.ti8 : TI := ⟨4, 24, .str [(0, 2), (1, 3), (2, 4), (3, 6)], some (.agg [.int .i64 0, .int .i64 0, .bool false, .u8 0]), false, false⟩
def Tryd.ti9 : TI := ⟨1, 16, .string, some (.str []), false, false⟩
def Tryd.ti10 : TI := ⟨1, 16, .string, some (.str []), false, false⟩
def Tryd.ti11 : TI := ⟨1, 16, .string, some (.str []), false, false⟩
def Tryd.ti12 : TI := ⟨1, 8, .int .u64, some (.u64 0), false, false⟩
def Tryd.ti13 : TI := ⟨2, 24, .str [(0, 9), (1, 12)], some (.agg [.str [], .u64 0]), false, false⟩
def Tryd.ti14 : TI := ⟨2, 24, .str [(0, 9), (1, 12)], some (.agg [.str [], .u64 0]), false, false⟩
def Tryd.ti15 : TI := ⟨1, 8, .ptr 126, some (.raw (.pointer none)), false, false⟩
def Tryd.ti16 : TI := ⟨1, 8, .ptr 129, some (.raw (.pointer none)), false, false⟩
def Tryd.ti17 : TI := ⟨1, 8, .ptr 137, some (.raw (.pointer none)), false, false⟩
def Tryd.ti18 : TI := ⟨1, 8, .str [(0, 17)], some (.agg [.raw (.pointer none)]), false, false⟩
def Tryd.ti19 : TI := ⟨1, 8, .str [(0, 17)], some (.agg [.raw (.pointer none)]), false, false⟩
def Tryd.ti21 : TI := ⟨1, 4, .int .i32, some (.int .i32 0), false, false⟩
def Tryd.ti22 : TI := ⟨1, 24, .slice 3, some (.vec true 1 []), false, false⟩
def Tryd.ti23 : TI := ⟨2, 48, .arr 2 22, some (.agg [.vec true 1 [], .vec true 1 []]), false, false⟩
def Tryd.ti24 : TI := ⟨1, 24, .slice 22, some (.vec true 1 []), false, false⟩
def Tryd.ti25 : TI := ⟨6, 120, .str [(0, 9), (1, 4), (2, 22), (3, 23), (5, 24)], some (.agg [.str [], .bool false, .vec true 1 [], .agg [.vec true 1 [], .vec true 1 []], .vec true 1 []]), false, false⟩
def Tryd.ti26 : TI := ⟨6, 120, .str [(0, 9), (1, 4), (2, 22), (3, 23), (5, 24)], some (.agg [.str [], .bool false, .vec true 1 [], .agg [.vec true 1 [], .vec true 1 []], .vec true 1 []]), false, false⟩
def Tryd.ti28 : TI := ⟨1, 8, .other, some (.raw .nilFunc), false, false⟩
def Tryd.ti29 : TI := ⟨1, 8, .other, some (.raw .nilFunc), false, false⟩
def Tryd.ti30 : TI := ⟨1, 8, .int .i64, some (.int .i64 0), false, false⟩
def Tryd.ti31 : TI := ⟨1, 8, .other, some (.raw .nilFunc), false, false⟩
def Tryd.ti32 : TI := ⟨1, 8, .other, some (.raw .nilFunc), false, false⟩
def Tryd.ti33 : TI := ⟨1, 8, .other, some (.raw .nilFunc), false, false⟩
def Tryd.ti35 : TI := ⟨1, 8, .other, some (.raw .nilFunc), false, false⟩
def Tryd.ti36 : TI := ⟨1, 24, .slice 39, some (.vec true 2 []), false, false⟩
def Tryd.ti38 : TI := ⟨1, 8, .other, some (.raw .nilFunc), false, false⟩
def Tryd.ti39 : TI := ⟨2, 16, .arr 2 3, some (.agg [.int .i64 0, .int .i64 0]), true, false⟩
def Tryd.ti40 : TI := ⟨1, 8, .other, some (.raw .nilFunc), false, false⟩
def Tryd.ti41 : TI := ⟨1, 8, .other, some (.raw .nilFunc), false, false⟩
def Tryd.ti42 : TI := ⟨1, 8, .other, some (.raw .nilFunc), false, false⟩
def Tryd.ti44 : TI := ⟨1, 8, .other, some (.raw .nilFunc), false, false⟩
def Tryd.ti46 : TI := ⟨1, 8, .other, some (.raw .nilFunc), false, false⟩
def Tryd.ti47 : TI := ⟨1, 8, .other, some (.raw .nilFunc), false, false⟩
def Tryd.ti48 : TI := ⟨1, 8, .other, some (.raw .nilFunc), false, false⟩
def Tryd.ti49 : TI := ⟨6, 96, .arr 6 9, some (.agg [.str [], .str [], .str [], .str [], .str [], .str []]), true, false⟩
def Tryd.ti50 : TI := ⟨1, 8, .other, some (.raw .nilFunc), false, false⟩
def Tryd.ti51 : TI := ⟨1, 8, .other, some (.raw .nilFunc), false, false⟩
def Tryd.ti52 : TI := ⟨1, 8, .ptr 58, some (.raw (.pointer none)), false, false⟩
def Tryd.ti53 : TI := ⟨3, 3, .str [(0, 4), (1, 4), (2, 4)], some (.agg [.bool false, .bool false, .bool false]), true, true⟩
def Tryd.ti54 : TI := ⟨3, 3, .str [(0, 4), (1, 4), (2, 4)], some (.agg [.bool false, .bool false, .bool false]), true, true⟩
def Tryd.ti55 : TI := ⟨6, 6, .arr 2 54, some (.agg [.agg [.bool false, .bool false, .bool false], .agg [.bool false, .bool false, .bool false]]), true, false⟩
def Tryd.ti56 : TI := ⟨8, 8, .arr 8 4, some (.agg [.bool false, .bool false, .bool false, .bool false, .bool false, .bool false, .bool false, .bool false]), true, false⟩
def Tryd.ti57 : TI := ⟨15, 15, .str [(0, 55), (6, 56), (14, 4)], some (.agg [.agg [.agg [.bool false, .bool false, .bool false], .agg [.bool false, .bool false, .bool false]], .agg [.bool false, .bool false, .bool false, .bool false, .bool false, .bool false, .bool false, .bool false], .bool false]), true, true⟩
def Tryd.ti58 : TI := ⟨15, 15, .str [(0, 55), (6, 56), (14, 4)], some (.agg [.agg [.agg [.bool false, .bool false, .bool false], .agg [.bool false, .bool false, .bool false]], .agg [.bool false, .bool false, .bool false, .bool false, .bool false, .bool false, .bool false, .bool false], .bool false]), true, true⟩
def Tryd.ti59 : TI := ⟨1, 8, .other, some (.raw .nilFunc), false, false⟩
def Tryd.ti60 : TI := ⟨1, 8, .other, some (.raw .nilFunc), false, false⟩
def Tryd.ti61 : TI := ⟨1, 24, .slice 65, some (.vec true 4 []), false, false⟩
def Tryd.ti63 : TI := ⟨1, 8, .other, some (.raw .nilFunc), false, false⟩
def Tryd.ti64 : TI := ⟨4, 48, .str [(0, 3), (1, 3), (2, 3), (3, 61)], some (.agg [.int .i64 0, .int .i64 0, .int .i64 0, .vec true 4 []]), false, false⟩
def Tryd.ti65 : TI := ⟨4, 48, .str [(0, 3), (1, 3), (2, 3), (3, 61)], some (.agg [.int .i64 0, .int .i64 0, .int .i64 0, .vec true 4 []]), false, false⟩
def Tryd.ti66 : TI := ⟨1, 8, .other, some (.raw .nilFunc), false, false⟩
def Tryd.ti67 : TI := ⟨1, 8, .other, some (.raw .nilFunc), false, false⟩
def Tryd.ti68 : TI := ⟨1, 8, .other, some (.raw .nilFunc), false, false⟩
def Tryd.ti69 : TI := ⟨1, 8, .other, some (.raw .nilFunc), false, false⟩
def Tryd.ti70 : TI := ⟨1, 24, .slice 9, some (.vec true 1 []), false, false⟩
def Tryd.ti71 : TI := ⟨1, 8, .other, some (.raw .nilFunc), false, false⟩
def Tryd.ti73 : TI := ⟨1, 8, .other, some (.raw .nilFunc), false, false⟩
def Tryd.ti74 : TI := ⟨1, 8, .other, some (.raw .nilFunc), false, false⟩
def Tryd.ti75 : TI := ⟨1, 8, .other, some (.raw .nilFunc), false, false⟩
def Tryd.ti76 : TI := ⟨1, 8, .other, some (.raw .nilFunc), false, false⟩
def Tryd.ti77 : TI := ⟨1, 8, .ptr 4, some (.raw (.pointer none)), false, false⟩
def Tryd.ti78 : TI := ⟨4, 32, .arr 2 39, some (.agg [.agg [.int .i64 0, .int .i64 0], .agg [.int .i64 0, .int .i64 0]]), true, false⟩
def Tryd.ti79 : TI := ⟨1, 8, .ptr 81, some (.raw (.pointer none)), false, false⟩
def Tryd.ti80 : TI := ⟨11, 136, .str [(0, 65), (4, 65), (8, 4), (9, 3), (10, 61)], some (.agg [.agg [.int .i64 0, .int .i64 0, .int .i64 0, .vec true 4 []], .agg [.int .i64 0, .int .i64 0, .int .i64 0, .vec true 4 []], .bool false, .int .i64 0, .vec true 4 []]), false, false⟩
def Tryd.ti81 : TI := ⟨11, 136, .str [(0, 65), (4, 65), (8, 4), (9, 3), (10, 61)], some (.agg [.agg [.int .i64 0, .int .i64 0, .int .i64 0, .vec true 4 []], .agg [.int .i64 0, .int .i64 0, .int .i64 0, .vec true 4 []], .bool false, .int .i64 0, .vec true 4 []]), false, false⟩
def Tryd.ti82 : TI := ⟨1, 8, .other, some (.raw .nilFunc), false, false⟩
def Tryd.ti83 : TI := ⟨1, 8, .other, some (.raw .nilFunc), false, false⟩
def Tryd.ti84 : TI := ⟨1, 8, .other, some (.raw .nilFunc), false, false⟩
def Tryd.ti85 : TI := ⟨1, 8, .other, some (.raw .nilFunc), false, false⟩
def Tryd.ti86 : TI := ⟨1, 24, .slice 65, some (.vec true 4 []), false, false⟩
def Tryd.ti87 : TI := ⟨1, 8, .other, some (.raw .nilFunc), false, false⟩
def Tryd.ti88 : TI := ⟨1, 8, .other, some (.raw .nilFunc), false, false⟩
def Tryd.ti89 : TI := ⟨1, 8, .ptr 92, some (.raw (.pointer none)), false, false⟩
def Tryd.ti90 : TI := ⟨1, 24, .slice 5, some (.vec8 true []), false, false⟩
def Tryd.ti91 : TI := ⟨2, 32, .str [(0, 89), (1, 90)], some (.agg [.raw (.pointer none), .vec8 true []]), false, false⟩
def Tryd.ti92 : TI := ⟨2, 32, .str [(0, 89), (1, 90)], some (.agg [.raw (.pointer none), .vec8 true []]), false, false⟩
def Tryd.ti93 : TI := ⟨1, 8, .other, some (.raw .nilFunc), false, false⟩
def Tryd.ti97 : TI := ⟨1, 8, .other, some (.raw .nilFunc), false, false⟩
def Tryd.ti98 : TI := ⟨1, 8, .other, some (.raw .nilFunc), false, false⟩
def Tryd.ti99 : TI := ⟨1, 8, .other, some (.raw .nilFunc), false, false⟩
def Tryd.ti100 : TI := ⟨1, 8, .other, some (.raw .nilFunc), false, false⟩
def Tryd.ti101 : TI := ⟨1, 8, .other, some (.raw .nilFunc), false, false⟩
def Tryd.ti102 : TI := ⟨1, 8, .other, some (.raw .nilFunc), false, false⟩
def Tryd.ti103 : TI := ⟨1, 8, .other, some (.raw .nilFunc), false, false⟩
def Tryd.ti104 : TI := ⟨1, 8, .ptr 5, some (.raw (.pointer none)), false, false⟩
def Tryd.ti105 : TI := ⟨1, 8, .other, some (.raw .nilFunc), false, false⟩
def Tryd.ti106 : TI := ⟨1, 8, .other, some (.raw .nilFunc), false, false⟩
def Tryd.ti107 : TI := ⟨1, 8, .other, some (.raw .nilFunc), false, false⟩
def Tryd.ti108 : TI := ⟨1, 8, .int .u64, some (.u64 0), false, false⟩
def Tryd.ti109 : TI := ⟨1, 8, .other, some (.raw .nilFunc), false, false⟩
def Tryd.ti110 : TI := ⟨1, 8, .other, some (.raw .nilFunc), false, false⟩
def Tryd.ti112 : TI := ⟨1, 8, .other, some (.raw .nilFunc), false, false⟩
def Tryd.ti113 : TI := ⟨1, 8, .other, some (.raw .nilFunc), false, false⟩
def Tryd.ti114 : TI := ⟨1, 4, .int .u32, some (.u32 0), false, false⟩
def Tryd.ti116 : TI := ⟨1, 8, .other, some (.raw .nilFunc), false, false⟩
def Tryd.ti117 : TI := ⟨1, 8, .other, some (.raw .nilFunc), false, false⟩
def Tryd.ti119 : TI := ⟨1, 8, .other, some (.raw .nilFunc), false, false⟩
def Tryd.ti120 : TI := ⟨8, 64, .arr 8 3, some (.agg [.int .i64 0, .int .i64 0, .int .i64 0, .int .i64 0, .int .i64 0, .int .i64 0, .int .i64 0, .int .i64 0]), true, false⟩
def Tryd.ti121 : TI := ⟨256, 256, .arr 256 5, some (.b8 256 (List.replicate 256 0)), true, false⟩
def Tryd.ti122 : TI := ⟨2, 2, .str [(0, 5), (1, 5)], some (.agg [.u8 0, .u8 0]), true, true⟩
def Tryd.ti123 : TI := ⟨2, 2, .str [(0, 5), (1, 5)], some (.agg [.u8 0, .u8 0]), true, true⟩
def Tryd.ti124 : TI := ⟨32, 32, .arr 16 123, some (.agg [.agg [.u8 0, .u8 0], .agg [.u8 0, .u8 0], .agg [.u8 0, .u8 0], .agg [.u8 0, .u8 0], .agg [.u8 0, .u8 0], .agg [.u8 0, .u8 0], .agg [.u8 0, .u8 0], .agg [.u8 0, .u8 0], .agg [.u8 0, .u8 0], .agg [.u8 0, .u8 0], .agg [.u8 0, .u8 0], .agg [.u8 0, .u8 0], .agg [.u8 0, .u8 0], .agg [.u8 0, .u8 0], .agg [.u8 0, .u8 0], .agg [.u8 0, .u8 0]]), true, false⟩
def Tryd.ti125 : TI := ⟨4, 40, .str [(0, 17), (1, 17), (2, 17), (3, 9)], some (.agg [.raw (.pointer none), .raw (.pointer none), .raw (.pointer none), .str []]), false, false⟩
def Tryd.ti126 : TI := ⟨4, 40, .str [(0, 17), (1, 17), (2, 17), (3, 9)], some (.agg [.raw (.pointer none), .raw (.pointer none), .raw (.pointer none), .str []]), false, false⟩
def Tryd.ti127 : TI := ⟨0, 0, .arr 0 16, some (.agg []), false, false⟩
def Tryd.ti128 : TI := ⟨0, 0, .str [(0, 127)], some (.agg []), false, false⟩
def Tryd.ti129 : TI := ⟨0, 0, .str [(0, 127)], some (.agg []), false, false⟩
def Tryd.ti130 : TI := ⟨1, 8, .other, some (.raw .nilFunc), false, false⟩
def Tryd.ti131 : TI := ⟨1, 1, .int .u8, some (.u8 0), false, false⟩
def Tryd.ti132 : TI := ⟨1, 1, .int .u8, some (.u8 0), false, false⟩
def Tryd.ti133 : TI := ⟨1, 8, .other, some (.raw .nilFunc), false, false⟩
def Tryd.ti134 : TI := ⟨1, 4, .int .i32, some (.int .i32 0), false, false⟩
def Tryd.ti135 : TI := ⟨1, 4, .int .i32, some (.int .i32 0), false, false⟩
def Tryd.ti136 : TI := ⟨11, 48, .str [(0, 12), (1, 12), (2, 114), (3, 131), (4, 5), (5, 5), (6, 132), (7, 133), (8, 104), (9, 134), (10, 135)], some (.agg [.u64 0, .u64 0, .u32 0, .u8 0, .u8 0, .u8 0, .u8 0, .raw .nilFunc, .raw (.pointer none), .int .i32 0, .int .i32 0]), false, false⟩
def Tryd.ti137 : TI := ⟨11, 48, .str [(0, 12), (1, 12), (2, 114), (3, 131), (4, 5), (5, 5), (6, 132), (7, 133), (8, 104), (9, 134), (10, 135)], some (.agg [.u64 0, .u64 0, .u32 0, .u8 0, .u8 0, .u8 0, .u8 0, .raw .nilFunc, .raw (.pointer none), .int .i32 0, .int .i32 0]), false, false⟩
def Tryd.tis : List (Option TI) := [none, some Tryd.ti1, some Tryd.ti2, some Tryd.ti3, some Tryd.ti4, some Tryd.ti5, some Tryd.ti6, some Tryd.ti7, some Tryd.ti8, some Tryd.ti9, some Tryd.ti10, some Tryd.ti11, some Tryd.ti12, some Tryd.ti13, some Tryd.ti14, some Tryd.ti15, some Tryd.ti16, some Tryd.ti17, some Tryd.ti18, some Tryd.ti19, none, some Tryd.ti21, some Tryd.ti22, some Tryd.ti23, some Tryd.ti24, some Tryd.ti25, some Tryd.ti26, none, some Tryd.ti28, some Tryd.ti29, some Tryd.ti30, some Tryd.ti31, some Tryd.ti32, some Tryd.ti33, none, some Tryd.ti35, some Tryd.ti36, none, some Tryd.ti38, some Tryd.ti39, some Tryd.ti40, some Tryd.ti41, some Tryd.ti42, none, some Tryd.ti44, none, some Tryd.ti46, some Tryd.ti47, some Tryd.ti48, some Tryd.ti49, some Tryd.ti50, some Tryd.ti51, some Tryd.ti52, some Tryd.ti53, some Tryd.ti54, some Tryd.ti55, some Tryd.ti56, some Tryd.ti57, some Tryd.ti58, some Tryd.ti59, some Tryd.ti60, some Tryd.ti61, none, some Tryd.ti63, some Tryd.ti64, some Tryd.ti65, some Tryd.ti66, some Tryd.ti67, some Tryd.ti68, some Tryd.ti69, some Tryd.ti70, some Tryd.ti71, none, some Tryd.ti73, some Tryd.ti74, some Tryd.ti75, some Tryd.ti76, some Tryd.ti77, some Tryd.ti78, some Tryd.ti79, some Tryd.ti80, some Tryd.ti81, some Tryd.ti82, some Tryd.ti83, some Tryd.ti84, some Tryd.ti85, some Tryd.ti86, some Tryd.ti87, some Tryd.ti88, some Tryd.ti89, some Tryd.ti90, some Tryd.ti91, some Tryd.ti92, some Tryd.ti93, none, none, none, some Tryd.ti97, some Tryd.ti98, some Tryd.ti99, some Tryd.ti100, some Tryd.ti101, some Tryd.ti102, some Tryd.ti103, some Tryd.ti104, some Tryd.ti105, some Tryd.ti106, some Tryd.ti107, some Tryd.ti108, some Tryd.ti109, some Tryd.ti110, none, some Tryd.ti112, some Tryd.ti113, some Tryd.ti114, none, some Tryd.ti116, some Tryd.ti117, none, some Tryd.ti119, some Tryd.ti120, some Tryd.ti121, some Tryd.ti122, some Tryd.ti123, some Tryd.ti124, some Tryd.ti125, some Tryd.ti126, some Tryd.ti127, some Tryd.ti128, some Tryd.ti129, some Tryd.ti130, some Tryd.ti131, some Tryd.ti132, some Tryd.ti133, some Tryd.ti134, some Tryd.ti135, some Tryd.ti136, some Tryd.ti137]
theorem Tryd.tisOk : ((List.range Tryd.tis.length).all fun t => match Tryd.tis[t]? with | some (some i) => tiOkB Tryd.prog t i | _ => true) = true := by kernel_rfl
def Tryd.gos : List Nat := [3, 4, 5, 6, 7, 8, 9, 10, 11, 12, 13, 14, 15, 16, 17, 18, 19, 20, 21, 22, 23, 24, 25, 26, 27, 28, 29, 30, 31, 32, 33, 34, 35, 36, 37, 38, 39, 40, 41, 42, 43, 44, 45, 46, 50, 51, 52, 53, 54, 55, 56, 57, 58, 59, 60, 67, 68, 69, 70, 75, 76, 78]
theorem Tryd.gosOk : Tryd.gos.all (goFnB Tryd.prog) = true := by kernel_rfl
def Tryd.xk (f : Nat) : FK := FK.go
theorem Tryd.addOk : ∀ f, Tryd.xk f = .add64 → IsExt Tryd.prog f add64Entry := by
  intro f h
  have : Tryd.xk f = .go := by
    unfold Tryd.xk
    rfl
  rw [this] at h; exact absurd h (by decide)
theorem Tryd.subOk : ∀ f, Tryd.xk f = .sub64 → IsExt Tryd.prog f sub64Entry := by
  intro f h
  have : Tryd.xk f = .go := by
    unfold Tryd.xk
    rfl
  rw [this] at h; exact absurd h (by decide)
def Tryd.gl (g : Nat) : Option (List AV) := bif g == 0 then some [.str [78, 78], .str [78, 75], .str [88, 88], .str [73, 75], .str [88, 75], .str [75, 75]] else bif g == 1 then some [.any] else none
noncomputable def Tryd.E : Env Tryd.prog where
  ty := fun t => oget Tryd.tis t
  g := Tryd.gl
  x := Tryd.xk
  go := fun f => Tryd.gos.contains f
  tyOk := fun t i h => tyOk_of Tryd.tisOk t i ((oget_eq _ _).symm.trans h)
  addOk := Tryd.addOk
  subOk := Tryd.subOk
  goOk := fun f h => goFn_of (List.all_eq_true.1 Tryd.gosOk f (by simpa using h))
  follows := by kernel_rfl
theorem Tryd.E_ty1 : Tryd.E.ty 1 = some ⟨1, 8, .other, some (.raw .nilFunc), false, false⟩ := rfl
theorem Tryd.E_ty2 : Tryd.E.ty 2 = some ⟨1, 8, .int .i64, some (.int .i64 0), false, false⟩ := rfl
theorem Tryd.E_ty3 : Tryd.E.ty 3 = some ⟨1, 8, .int .i64, some (.int .i64 0), false, false⟩ := rfl
theorem Tryd.E_ty4 : Tryd.E.ty 4 = some ⟨1, 1, .bool, some (.bool false), false, false⟩ := rfl
theorem Tryd.E_ty5 : Tryd.E.ty 5 = some ⟨1, 1, .int .u8, some (.u8 0), false, false⟩ := rfl
theorem Tryd.E_ty6 : Tryd.E.ty 6 = some ⟨1, 1, .int .u8, some (.u8 0), false, false⟩ := rfl
theorem Tryd.E_ty7 : Tryd.E.ty 7 = some ⟨4, 24, .str [(0, 2), (1, 3), (2, 4), (3, 6)], some (.agg [.int .i64 0, .int .i64 0, .bool false, .u8 0]), false, false⟩ := rfl
theorem Tryd.E_ty8 : Tryd.E.ty 8 = some ⟨4, 24, .str [(0, 2), (1, 3), (2, 4), (3, 6)], some (.agg [.int .i64 0, .int .i64 0, .bool false, .u8 0]), false, false⟩ := rfl
theorem Tryd.E_ty9 : Tryd.E.ty 9 = some ⟨1, 16, .string, some (.str []), false, false⟩ := rfl
theorem Tryd.E_ty10 : Tryd.E.ty 10 = some ⟨1, 16, .string, some (.str []), false, false⟩ := rfl
theorem Tryd.E_ty11 : Tryd.E.ty 11 = some ⟨1, 16, .string, some (.str []), false, false⟩ := rfl
theorem Tryd.E_ty12 : Tryd.E.ty 12 = some ⟨1, 8, .int .u64, some (.u64 0), false, false⟩ := rfl
theorem Tryd.E_ty13 : Tryd.E.ty 13 = some ⟨2, 24, .str [(0, 9), (1, 12)], some (.agg [.str [], .u64 0]), false, false⟩ := rfl
theorem Tryd.E_ty14 : Tryd.E.ty 14 = some ⟨2, 24, .str [(0, 9), (1, 12)], some (.agg [.str [], .u64 0]), false, false⟩ := rfl
theorem Tryd.E_ty15 : Tryd.E.ty 15 = some ⟨1, 8, .ptr 126, some (.raw (.pointer none)), false, false⟩ := rfl
theorem Tryd.E_ty16 : Tryd.E.ty 16 = some ⟨1, 8, .ptr 129, some (.raw (.pointer none)), false, false⟩ := rfl
theorem Tryd.E_ty17 : Tryd.E.ty 17 = some ⟨1, 8, .ptr 137, some (.raw (.pointer none)), false, false⟩ := rfl
theorem Tryd.E_ty18 : Tryd.E.ty 18 = some ⟨1, 8, .str [(0, 17)], some (.agg [.raw (.pointer none)]), false, false⟩ := rfl
theorem Tryd.E_ty19 : Tryd.E.ty 19 = some ⟨1, 8, .str [(0, 17)], some (.agg [.raw (.pointer none)]), false, false⟩ := rfl
theorem Tryd.E_ty21 : Tryd.E.ty 21 = some ⟨1, 4, .int .i32, some (.int .i32 0), false, false⟩ := rfl
theorem Tryd.E_ty22 : Tryd.E.ty 22 = some ⟨1, 24, .slice 3, some (.vec true 1 []), false, false⟩ := rfl
theorem Tryd.E_ty23 : Tryd.E.ty 23 = some ⟨2, 48, .arr 2 22, some (.agg [.vec true 1 [], .vec true 1 []]), false, false⟩ := rfl
theorem Tryd.E_ty24 : Tryd.E.ty 24 = some ⟨1, 24, .slice 22, some (.vec true 1 []), false, false⟩ := rfl
theorem Tryd.E_ty25 : Tryd.E.ty 25 = some ⟨6, 120, .str [(0, 9), (1, 4), (2, 22), (3, 23), (5, 24)], some (.agg [.str [], .bool false, .vec true 1 [], .agg [.vec true 1 [], .vec true 1 []], .vec true 1 []]), false, false⟩ := rfl
theorem Tryd.E_ty26 : Tryd.E.ty 26 = some ⟨6, 120, .str [(0, 9), (1, 4), (2, 22), (3, 23), (5, 24)], some (.agg [.str [], .bool false, .vec true 1 [], .agg [.vec true 1 [], .vec true 1 []], .vec true 1 []]), false, false⟩ := rfl
theorem Tryd.E_ty28 : Tryd.E.ty 28 = some ⟨1, 8, .other, some (.raw .nilFunc), false, false⟩ := rfl
theorem Tryd.E_ty29 : Tryd.E.ty 29 = some ⟨1, 8, .other, some (.raw .nilFunc), false, false⟩ := rfl
theorem Tryd.E_ty30 : Tryd.E.ty 30 = some ⟨1, 8, .int .i64, some (.int .i64 0), false, false⟩ := rfl
theorem Tryd.E_ty31 : Tryd.E.ty 31 = some ⟨1, 8, .other, some (.raw .nilFunc), false, false⟩ := rfl
theorem Tryd.E_ty32 : Tryd.E.ty 32 = some ⟨1, 8, .other, some (.raw .nilFunc), false, false⟩ := rfl
theorem Tryd.E_ty33 : Tryd.E.ty 33 = some ⟨1, 8, .other, some (.raw .nilFunc), false, false⟩ := rfl
theorem Tryd.E_ty35 : Tryd.E.ty 35 = some ⟨1, 8, .other, some (.raw .nilFunc), false, false⟩ := rfl
theorem Tryd.E_ty36 : Tryd.E.ty 36 = some ⟨1, 24, .slice 39, some (.vec true 2 []), false, false⟩ := rfl
theorem Tryd.E_ty38 : Tryd.E.ty 38 = some ⟨1, 8, .other, some (.raw .nilFunc), false, false⟩ := rfl
theorem Tryd.E_ty39 : Tryd.E.ty 39 = some ⟨2, 16, .arr 2 3, some (.agg [.int .i64 0, .int .i64 0]), true, false⟩ := rfl
theorem Tryd.E_ty40 : Tryd.E.ty 40 = some ⟨1, 8, .other, some (.raw .nilFunc), false, false⟩ := rfl
theorem Tryd.E_ty41 : Tryd.E.ty 41 = some ⟨1, 8, .other, some (.raw .nilFunc), false, false⟩ := rfl
theorem Tryd.E_ty42 : Tryd.E.ty 42 = some ⟨1, 8, .other, some (.raw .nilFunc), false, false⟩ := rfl
theorem Tryd.E_ty44 : Tryd.E.ty 44 = some ⟨1, 8, .other, some (.raw .nilFunc), false, false⟩ := rfl
theorem Tryd.E_ty46 : Tryd.E.ty 46 = some ⟨1, 8, .other, some (.raw .nilFunc), false, false⟩ := rfl
theorem Tryd.E_ty47 : Tryd.E.ty 47 = some ⟨1, 8, .other, some (.raw .nilFunc), false, false⟩ := rfl
theorem Tryd.E_ty48 : Tryd.E.ty 48 = some ⟨1, 8, .other, some (.raw .nilFunc), false, false⟩ := rfl
theorem Tryd.E_ty49 : Tryd.E.ty 49 = some ⟨6, 96, .arr 6 9, some (.agg [.str [], .str [], .str [], .str [], .str [], .str []]), true, false⟩ := rfl
theorem Tryd.E_ty50 : Tryd.E.ty 50 = some ⟨1, 8, .other, some (.raw .nilFunc), false, false⟩ := rfl
theorem Tryd.E_ty51 : Tryd.E.ty 51 = some ⟨1, 8, .other, some (.raw .nilFunc), false, false⟩ := rfl
theorem Tryd.E_ty52 : Tryd.E.ty 52 = some ⟨1, 8, .ptr 58, some (.raw (.pointer none)), false, false⟩ := rfl
theorem Tryd.E_ty53 : Tryd.E.ty 53 = some ⟨3, 3, .str [(0, 4), (1, 4), (2, 4)], some (.agg [.bool false, .bool false, .bool false]), true, true⟩ := rfl
theorem Tryd.E_ty54 : Tryd.E.ty 54 = some ⟨3, 3, .str [(0, 4), (1, 4), (2, 4)], some (.agg [.bool false, .bool false, .bool false]), true, true⟩ := rfl
theorem Tryd.E_ty55 : Tryd.E.ty 55 = some ⟨6, 6, .arr 2 54, some (.agg [.agg [.bool false, .bool false, .bool false], .agg [.bool false, .bool false, .bool false]]), true, false⟩ := rfl
theorem Tryd.E_ty56 : Tryd.E.ty 56 = some ⟨8, 8, .arr 8 4, some (.agg [.bool false, .bool false, .bool false, .bool false, .bool false, .bool false, .bool false, .bool false]), true, false⟩ := rfl
theorem Tryd.E_ty57 : Tryd.E.ty 57 = some ⟨15, 15, .str [(0, 55), (6, 56), (14, 4)], some (.agg [.agg [.agg [.bool false, .bool false, .bool false], .agg [.bool false, .bool false, .bool false]], .agg [.bool false, .bool false, .bool false, .bool false, .bool false, .bool false, .bool false, .bool false], .bool false]), true, true⟩ := rfl
theorem Tryd.E_ty58 : Tryd.E.ty 58 = some ⟨15, 15, .str [(0, 55), (6, 56), (14, 4)], some (.agg [.agg [.agg [.bool false, .bool false, .bool false], .agg [.bool false, .bool false, .bool false]], .agg [.bool false, .bool false, .bool false, .bool false, .bool false, .bool false, .bool false, .bool false], .bool false]), true, true⟩ := rfl
theorem Tryd.E_ty59 : Tryd.E.ty 59 = some ⟨1, 8, .other, some (.raw .nilFunc), false, false⟩ := rfl
theorem Tryd.E_ty60 : Tryd.E.ty 60 = some ⟨1, 8, .other, some (.raw .nilFunc), false, false⟩ := rfl
theorem Tryd.E_ty61 : Tryd.E.ty 61 = some ⟨1, 24, .slice 65, some (.vec true 4 []), false, false⟩ := rfl
theorem Tryd.E_ty63 : Tryd.E.ty 63 = some ⟨1, 8, .other, some (.raw .nilFunc), false, false⟩ := rfl
theorem Tryd.E_ty64 : Tryd.E.ty 64 = some ⟨4, 48, .str [(0, 3), (1, 3), (2, 3), (3, 61)], some (.agg [.int .i64 0, .int .i64 0, .int .i64 0, .vec true 4 []]), false, false⟩ := rfl
theorem Tryd.E_ty65 : Tryd.E.ty 65 = some ⟨4, 48, .str [(0, 3), (1, 3), (2, 3), (3, 61)], some (.agg [.int .i64 0, .int .i64 0, .int .i64 0, .vec true 4 []]), false, false⟩ := rfl
theorem Tryd.E_ty66 : Tryd.E.ty 66 = some ⟨1, 8, .other, some (.raw .nilFunc), false, false⟩ := rfl
theorem Tryd.E_ty67 : Tryd.E.ty 67 = some ⟨1, 8, .other, some (.raw .nilFunc), false, false⟩ := rfl
theorem Tryd.E_ty68 : Tryd.E.ty 68 = some ⟨1, 8, .other, some (.raw .nilFunc), false, false⟩ := rfl
theorem Tryd.E_ty69 : Tryd.E.ty 69 = some ⟨1, 8, .other, some (.raw .nilFunc), false, false⟩ := rfl
theorem Tryd.E_ty70 : Tryd.E.ty 70 = some ⟨1, 24, .slice 9, some (.vec true 1 []), false, false⟩ := rfl
theorem Tryd.E_ty71 : Tryd.E.ty 71 = some ⟨1, 8, .other, some (.raw .nilFunc), false, false⟩ := rfl
theorem Tryd.E_ty73 : Tryd.E.ty 73 = some ⟨1, 8, .other, some (.raw .nilFunc), false, false⟩ := rfl
theorem Tryd.E_ty74 : Tryd.E.ty 74 = some ⟨1, 8, .other, some (.raw .nilFunc), false, false⟩ := rfl
theorem Tryd.E_ty75 : Tryd.E.ty 75 = some ⟨1, 8, .other, some (.raw .nilFunc), false, false⟩ := rfl
theorem Tryd.E_ty76 : Tryd.E.ty 76 = some ⟨1, 8, .other, some (.raw .nilFunc), false, false⟩ := rfl
theorem Tryd.E_ty77 : Tryd.E.ty 77 = some ⟨1, 8, .ptr 4, some (.raw (.pointer none)), false, false⟩ := rfl
theorem Tryd.E_ty78 : Tryd.E.ty 78 = some ⟨4, 32, .arr 2 39, some (.agg [.agg [.int .i64 0, .int .i64 0], .agg [.int .i64 0, .int .i64 0]]), true, false⟩ := rfl
theorem Tryd.E_ty79 : Tryd.E.ty 79 = some ⟨1, 8, .ptr 81, some (.raw (.pointer none)), false, false⟩ := rfl
theorem Tryd.E_ty80 : Tryd.E.ty 80 = some ⟨11, 136, .str [(0, 65), (4, 65), (8, 4), (9, 3), (10, 61)], some (.agg [.agg [.int .i64 0, .int .i64 0, .int .i64 0, .vec true 4 []], .agg [.int .i64 0, .int .i64 0, .int .i64 0, .vec true 4 []], .bool false, .int .i64 0, .vec true 4 []]), false, false⟩ := rfl
theorem Tryd.E_ty81 : Tryd.E.ty 81 = some ⟨11, 136, .str [(0, 65), (4, 65), (8, 4), (9, 3), (10, 61)], some (.agg [.agg [.int .i64 0, .int .i64 0, .int .i64 0, .vec true 4 []], .agg [.int .i64 0, .int .i64 0, .int .i64 0, .vec true 4 []], .bool false, .int .i64 0, .vec true 4 []]), false, false⟩ := rfl
theorem Tryd.E_ty82 : Tryd.E.ty 82 = some ⟨1, 8, .other, some (.raw .nilFunc), false, false⟩ := rfl
theorem Tryd.E_ty83 : Tryd.E.ty 83 = some ⟨1, 8, .other, some (.raw .nilFunc), false, false⟩ := rfl
theorem Tryd.E_ty84 : Tryd.E.ty 84 = some ⟨1, 8, .other, some (.raw .nilFunc), false, false⟩ := rfl
theorem Tryd.E_ty85 : Tryd.E.ty 85 = some ⟨1, 8, .other, some (.raw .nilFunc), false, false⟩ := rfl
theorem Tryd.E_ty86 : Tryd.E.ty 86 = some ⟨1, 24, .slice 65, some (.vec true 4 []), false, false⟩ := rfl
theorem Tryd.E_ty87 : Tryd.E.ty 87 = some ⟨1, 8, .other, some (.raw .nilFunc), false, false⟩ := rfl
theorem Tryd.E_ty88 : Tryd.E.ty 88 = some ⟨1, 8, .other, some (.raw .nilFunc), false, false⟩ := rfl
theorem Tryd.E_ty89 : Tryd.E.ty 89 = some ⟨1, 8, .ptr 92, some (.raw (.pointer none)), false, false⟩ := rfl
theorem Tryd.E_ty90 : Tryd.E.ty 90 = some ⟨1, 24, .slice 5, some (.vec8 true []), false, false⟩ := rfl
theorem Tryd.E_ty91 : Tryd.E.ty 91 = some ⟨2, 32, .str [(0, 89), (1, 90)], some (.agg [.raw (.pointer none), .vec8 true []]), false, false⟩ := rfl
theorem Tryd.E_ty92 : Tryd.E.ty 92 = some ⟨2, 32, .str [(0, 89), (1, 90)], some (.agg [.raw (.pointer none), .vec8 true []]), false, false⟩ := rfl
theorem Tryd.E_ty93 : Tryd.E.ty 93 = some ⟨1, 8, .other, some (.raw .nilFunc), false, false⟩ := rfl
theorem Tryd.E_ty97 : Tryd.E.ty 97 = some ⟨1, 8, .other, some (.raw .nilFunc), false, false⟩ := rfl
theorem Tryd.E_ty98 : Tryd.E.ty 98 = some ⟨1, 8, .other, some (.raw .nilFunc), false, false⟩ := rfl
theorem Tryd.E_ty99 : Tryd.E.ty 99 = some ⟨1, 8, .other, some (.raw .nilFunc), false, false⟩ := rfl
theorem Tryd.E_ty100 : Tryd.E.ty 100 = some ⟨1, 8, .other, some (.raw .nilFunc), false, false⟩ := rfl
theorem Tryd.E_ty101 : Tryd.E.ty 101 = some ⟨1, 8, .other, some (.raw .nilFunc), false, false⟩ := rfl
theorem Tryd.E_ty102 : Tryd.E.ty 102 = some ⟨1, 8, .other, some (.raw .nilFunc), false, false⟩ := rfl
theorem Tryd.E_ty103 : Tryd.E.ty 103 = some ⟨1, 8, .other, some (.raw .nilFunc), false, false⟩ := rfl
theorem Tryd.E_ty104 : Tryd.E.ty 104 = some ⟨1, 8, .ptr 5, some (.raw (.pointer none)), false, false⟩ := rfl
theorem Tryd.E_ty105 : Tryd.E.ty 105 = some ⟨1, 8, .other, some (.raw .nilFunc), false, false⟩ := rfl
theorem Tryd.E_ty106 : Tryd.E.ty 106 = some ⟨1, 8, .other, some (.raw .nilFunc), false, false⟩ := rfl
theorem Tryd.E_ty107 : Tryd.E.ty 107 = some ⟨1, 8, .other, some (.raw .nilFunc), false, false⟩ := rfl
theorem Tryd.E_ty108 : Tryd.E.ty 108 = some ⟨1, 8, .int .u64, some (.u64 0), false, false⟩ := rfl
theorem Tryd.E_ty109 : Tryd.E.ty 109 = some ⟨1, 8, .other, some (.raw .nilFunc), false, false⟩ := rfl
theorem Tryd.E_ty110 : Tryd.E.ty 110 = some ⟨1, 8, .other, some (.raw .nilFunc), false, false⟩ := rfl
theorem Tryd.E_ty112 : Tryd.E.ty 112 = some ⟨1, 8, .other, some (.raw .nilFunc), false, false⟩ := rfl
theorem Tryd.E_ty113 : Tryd.E.ty 113 = some ⟨1, 8, .other, some (.raw .nilFunc), false, false⟩ := rfl
theorem Tryd.E_ty114 : Tryd.E.ty 114 = some ⟨1, 4, .int .u32, some (.u32 0), false, false⟩ := rfl
theorem Tryd.E_ty116 : Tryd.E.ty 116 = some ⟨1, 8, .other, some (.raw .nilFunc), false, false⟩ := rfl
theorem Tryd.E_ty117 : Tryd.E.ty 117 = some ⟨1, 8, .other, some (.raw .nilFunc), false, false⟩ := rfl
theorem Tryd.E_ty119 : Tryd.E.ty 119 = some ⟨1, 8, .other, some (.raw .nilFunc), false, false⟩ := rfl
theorem Tryd.E_ty120 : Tryd.E.ty 120 = some ⟨8, 64, .arr 8 3, some (.agg [.int .i64 0, .int .i64 0, .int .i64 0, .int .i64 0, .int .i64 0, .int .i64 0, .int .i64 0, .int .i64 0]), true, false⟩ := rfl
theorem Tryd.E_ty121 : Tryd.E.ty 121 = some ⟨256, 256, .arr 256 5, some (.b8 256 (List.replicate 256 0)), true, false⟩ := rfl
theorem Tryd.E_ty122 : Tryd.E.ty 122 = some ⟨2, 2, .str [(0, 5), (1, 5)], some (.agg [.u8 0, .u8 0]), true, true⟩ := rfl
theorem Tryd.E_ty123 : Tryd.E.ty 123 = some ⟨2, 2, .str [(0, 5), (1, 5)], some (.agg [.u8 0, .u8 0]), true, true⟩ := rfl
theorem Tryd.E_ty124 : Tryd.E.ty 124 = some ⟨32, 32, .arr 16 123, some (.agg [.agg [.u8 0, .u8 0], .agg [.u8 0, .u8 0], .agg [.u8 0, .u8 0], .agg [.u8 0, .u8 0], .agg [.u8 0, .u8 0], .agg [.u8 0, .u8 0], .agg [.u8 0, .u8 0], .agg [.u8 0, .u8 0], .agg [.u8 0, .u8 0], .agg [.u8 0, .u8 0], .agg [.u8 0, .u8 0], .agg [.u8 0, .u8 0], .agg [.u8 0, .u8 0], .agg [.u8 0, .u8 0], .agg [.u8 0, .u8 0], .agg [.u8 0, .u8 0]]), true, false⟩ := rfl
theorem Tryd.E_ty125 : Tryd.E.ty 125 = some ⟨4, 40, .str [(0, 17), (1, 17), (2, 17), (3, 9)], some (.agg [.raw (.pointer none), .raw (.pointer none), .raw (.pointer none), .str []]), false, false⟩ := rfl
theorem Tryd.E_ty126 : Tryd.E.ty 126 = some ⟨4, 40, .str [(0, 17), (1, 17), (2, 17), (3, 9)], some (.agg [.raw (.pointer none), .raw (.pointer none), .raw (.pointer none), .str []]), false, false⟩ := rfl
theorem Tryd.E_ty127 : Tryd.E.ty 127 = some ⟨0, 0, .arr 0 16, some (.agg []), false, false⟩ := rfl
theorem Tryd.E_ty128 : Tryd.E.ty 128 = some ⟨0, 0, .str [(0, 127)], some (.agg []), false, false⟩ := rfl
theorem Tryd.E_ty129 : Tryd.E.ty 129 = some ⟨0, 0, .str [(0, 127)], some (.agg []), false, false⟩ := rfl
theorem Tryd.E_ty130 : Tryd.E.ty 130 = some ⟨1, 8, .other, some (.raw .nilFunc), false, false⟩ := rfl
theorem Tryd.E_ty131 : Tryd.E.ty 131 = some ⟨1, 1, .int .u8, some (.u8 0), false, false⟩ := rfl
theorem Tryd.E_ty132 : Tryd.E.ty 132 = some ⟨1, 1, .int .u8, some (.u8 0), false, false⟩ := rfl
theorem Tryd.E_ty133 : Tryd.E.ty 133 = some ⟨1, 8, .other, some (.raw .nilFunc), false, false⟩ := rfl
theorem Tryd.E_ty134 : Tryd.E.ty 134 = some ⟨1, 4, .int .i32, some (.int .i32 0), false, false⟩ := rfl
theorem Tryd.E_ty135 : Tryd.E.ty 135 = some ⟨1, 4, .int .i32, some (.int .i32 0), false, false⟩ := rfl
theorem Tryd.E_ty136 : Tryd.E.ty 136 = some ⟨11, 48, .str [(0, 12), (1, 12), (2, 114), (3, 131), (4, 5), (5, 5), (6, 132), (7, 133), (8, 104), (9, 134), (10, 135)], some (.agg [.u64 0, .u64 0, .u32 0, .u8 0, .u8 0, .u8 0, .u8 0, .raw .nilFunc, .raw (.pointer none), .int .i32 0, .int .i32 0]), false, false⟩ := rfl
theorem Tryd.E_ty137 : Tryd.E.ty 137 = some ⟨11, 48, .str [(0, 12), (1, 12), (2, 114), (3, 131), (4, 5), (5, 5), (6, 132), (7, 133), (8, 104), (9, 134), (10, 135)], some (.agg [.u64 0, .u64 0, .u32 0, .u8 0, .u8 0, .u8 0, .u8 0, .raw .nilFunc, .raw (.pointer none), .int .i32 0, .int .i32 0]), false, false⟩ := rfl
theorem Tryd.E_go3 : Tryd.E.go 3 = true := rfl
theorem Tryd.E_go4 : Tryd.E.go 4 = true := rfl
theorem Tryd.E_go5 : Tryd.E.go 5 = true := rfl
theorem Tryd.E_go6 : Tryd.E.go 6 = true := rfl
theorem Tryd.E_go7 : Tryd.E.go 7 = true := rfl
theorem Tryd.E_go8 : Tryd.E.go 8 = true := rfl
theorem Tryd.E_go9 : Tryd.E.go 9 = true := rfl
theorem Tryd.E_go10 : Tryd.E.go 10 = true := rfl
theorem Tryd.E_go11 : Tryd.E.go 11 = true := rfl
theorem Tryd.E_go12 : Tryd.E.go 12 = true := rfl
theorem Tryd.E_go13 : Tryd.E.go 13 = true := rfl
theorem Tryd.E_go14 : Tryd.E.go 14 = true := rfl
theorem Tryd.E_go15 : Tryd.E.go 15 = true := rfl
theorem Tryd.E_go16 : Tryd.E.go 16 = true := rfl
theorem Tryd.E_go17 : Tryd.E.go 17 = true := rfl
theorem Tryd.E_go18 : Tryd.E.go 18 = true := rfl
theorem Tryd.E_go19 : Tryd.E.go 19 = true := rfl
theorem Tryd.E_go20 : Tryd.E.go 20 = true := rfl
theorem Tryd.E_go21 : Tryd.E.go 21 = true := rfl
theorem Tryd.E_go22 : Tryd.E.go 22 = true := rfl
theorem Tryd.E_go23 : Tryd.E.go 23 = true := rfl
theorem Tryd.E_go24 : Tryd.E.go 24 = true := rfl
theorem Tryd.E_go25 : Tryd.E.go 25 = true := rfl
theorem Tryd.E_go26 : Tryd.E.go 26 = true := rfl
theorem Tryd.E_go27 : Tryd.E.go 27 = true := rfl
theorem Tryd.E_go28 : Tryd.E.go 28 = true := rfl
theorem Tryd.E_go29 : Tryd.E.go 29 = true := rfl
theorem Tryd.E_go30 : Tryd.E.go 30 = true := rfl
theorem Tryd.E_go31 : Tryd.E.go 31 = true := rfl
theorem Tryd.E_go32 : Tryd.E.go 32 = true := rfl
theorem Tryd.E_go33 : Tryd.E.go 33 = true := rfl
theorem Tryd.E_go34 : Tryd.E.go 34 = true := rfl
theorem Tryd.E_go35 : Tryd.E.go 35 = true := rfl
theorem Tryd.E_go36 : Tryd.E.go 36 = true := rfl
theorem Tryd.E_go37 : Tryd.E.go 37 = true := rfl
theorem Tryd.E_go38 : Tryd.E.go 38 = true := rfl
theorem Tryd.E_go39 : Tryd.E.go 39 = true := rfl
theorem Tryd.E_go40 : Tryd.E.go 40 = true := rfl
theorem Tryd.E_go41 : Tryd.E.go 41 = true := rfl
theorem Tryd.E_go42 : Tryd.E.go 42 = true := rfl
theorem Tryd.E_go43 : Tryd.E.go 43 = true := rfl
theorem Tryd.E_go44 : Tryd.E.go 44 = true := rfl
theorem Tryd.E_go45 : Tryd.E.go 45 = true := rfl
theorem Tryd.E_go46 : Tryd.E.go 46 = true := rfl
theorem Tryd.E_go50 : Tryd.E.go 50 = true := rfl
theorem Tryd.E_go51 : Tryd.E.go 51 = true := rfl
theorem Tryd.E_go52 : Tryd.E.go 52 = true := rfl
theorem Tryd.E_go53 : Tryd.E.go 53 = true := rfl
theorem Tryd.E_go54 : Tryd.E.go 54 = true := rfl
theorem Tryd.E_go55 : Tryd.E.go 55 = true := rfl
theorem Tryd.E_go56 : Tryd.E.go 56 = true := rfl
theorem Tryd.E_go57 : Tryd.E.go 57 = true := rfl
theorem Tryd.E_go58 : Tryd.E.go 58 = true := rfl
theorem Tryd.E_go59 : Tryd.E.go 59 = true := rfl
theorem Tryd.E_go60 : Tryd.E.go 60 = true := rfl
theorem Tryd.E_go67 : Tryd.E.go 67 = true := rfl
theorem Tryd.E_go68 : Tryd.E.go 68 = true := rfl
theorem Tryd.E_go69 : Tryd.E.go 69 = true := rfl
theorem Tryd.E_go70 : Tryd.E.go 70 = true := rfl
theorem Tryd.E_go75 : Tryd.E.go 75 = true := rfl
theorem Tryd.E_go76 : Tryd.E.go 76 = true := rfl
theorem Tryd.E_go78 : Tryd.E.go 78 = true := rfl
theorem Tryd.E_x3 : Tryd.E.x 3 = .go := rfl
theorem Tryd.E_x4 : Tryd.E.x 4 = .go := rfl
theorem Tryd.E_x5 : Tryd.E.x 5 = .go := rfl
theorem Tryd.E_x6 : Tryd.E.x 6 = .go := rfl
theorem Tryd.E_x7 : Tryd.E.x 7 = .go := rfl
theorem Tryd.E_x8 : Tryd.E.x 8 = .go := rfl
theorem Tryd.E_x9 : Tryd.E.x 9 = .go := rfl
theorem Tryd.E_x10 : Tryd.E.x 10 = .go := rfl
theorem Tryd.E_x11 : Tryd.E.x 11 = .go := rfl
theorem Tryd.E_x12 : Tryd.E.x 12 = .go := rfl
theorem Tryd.E_x13 : Tryd.E.x 13 = .go := rfl
theorem Tryd.E_x14 : Tryd.E.x 14 = .go := rfl
theorem Tryd.E_x15 : Tryd.E.x 15 = .go := rfl
theorem Tryd.E_x16 : Tryd.E.x 16 = .go := rfl
theorem Tryd.E_x17 : Tryd.E.x 17 = .go := rfl
theorem Tryd.E_x18 : Tryd.E.x 18 = .go := rfl
theorem Tryd.E_x19 : Tryd.E.x 19 = .go := rfl
theorem Tryd.E_x20 : Tryd.E.x 20 = .go := rfl
theorem Tryd.E_x21 : Tryd.E.x 21 = .go := rfl
theorem Tryd.E_x22 : Tryd.E.x 22 = .go := rfl
theorem Tryd.E_x23 : Tryd.E.x 23 = .go := rfl
theorem Tryd.E_x24 : Tryd.E.x 24 = .go := rfl
theorem Tryd.E_x25 : Tryd.E.x 25 = .go := rfl
theorem Tryd.E_x26 : Tryd.E.x 26 = .go := rfl
theorem Tryd.E_x27 : Tryd.E.x 27 = .go := rfl
theorem Tryd.E_x28 : Tryd.E.x 28 = .go := rfl
theorem Tryd.E_x29 : Tryd.E.x 29 = .go := rfl
theorem Tryd.E_x30 : Tryd.E.x 30 = .go := rfl
theorem Tryd.E_x31 : Tryd.E.x 31 = .go := rfl
theorem Tryd.E_x32 : Tryd.E.x 32 = .go := rfl
theorem Tryd.E_x33 : Tryd.E.x 33 = .go := rfl
theorem Tryd.E_x34 : Tryd.E.x 34 = .go := rfl
theorem Tryd.E_x35 : Tryd.E.x 35 = .go := rfl
theorem Tryd.E_x36 : Tryd.E.x 36 = .go := rfl
theorem Tryd.E_x37 : Tryd.E.x 37 = .go := rfl
theorem Tryd.E_x38 : Tryd.E.x 38 = .go := rfl
theorem Tryd.E_x39 : Tryd.E.x 39 = .go := rfl
theorem Tryd.E_x40 : Tryd.E.x 40 = .go := rfl
theorem Tryd.E_x41 : Tryd.E.x 41 = .go := rfl
theorem Tryd.E_x42 : Tryd.E.x 42 = .go := rfl
theorem Tryd.E_x43 : Tryd.E.x 43 = .go := rfl
theorem Tryd.E_x44 : Tryd.E.x 44 = .go := rfl
theorem Tryd.E_x45 : Tryd.E.x 45 = .go := rfl
theorem Tryd.E_x46 : Tryd.E.x 46 = .go := rfl
theorem Tryd.E_x50 : Tryd.E.x 50 = .go := rfl
theorem Tryd.E_x51 : Tryd.E.x 51 = .go := rfl
theorem Tryd.E_x52 : Tryd.E.x 52 = .go := rfl
theorem Tryd.E_x53 : Tryd.E.x 53 = .go := rfl
theorem Tryd.E_x54 : Tryd.E.x 54 = .go := rfl
theorem Tryd.E_x55 : Tryd.E.x 55 = .go := rfl
theorem Tryd.E_x56 : Tryd.E.x 56 = .go := rfl
theorem Tryd.E_x57 : Tryd.E.x 57 = .go := rfl
theorem Tryd.E_x58 : Tryd.E.x 58 = .go := rfl
theorem Tryd.E_x59 : Tryd.E.x 59 = .go := rfl
theorem Tryd.E_x60 : Tryd.E.x 60 = .go := rfl
theorem Tryd.E_x67 : Tryd.E.x 67 = .go := rfl
theorem Tryd.E_x68 : Tryd.E.x 68 = .go := rfl
theorem Tryd.E_x69 : Tryd.E.x 69 = .go := rfl
theorem Tryd.E_x70 : Tryd.E.x 70 = .go := rfl
theorem Tryd.E_x75 : Tryd.E.x 75 = .go := rfl
theorem Tryd.E_x76 : Tryd.E.x 76 = .go := rfl
theorem Tryd.E_x78 : Tryd.E.x 78 = .go := rfl
theorem Tryd.E_g0 {t : List AV} : evA Tryd.E t (.global 0) = .vp [.str [78, 78], .str [78, 75], .str [88, 88], .str [73, 75], .str [88, 75], .str [75, 75]] 0 := rfl
theorem Tryd.E_g1 {t : List AV} : evA Tryd.E t (.global 1) = .vp [.any] 0 := rfl
-- Tryd.ti1 Tryd.E_ty1 Tryd.ti2 Tryd.E_ty2 Tryd.ti3 Tryd.E_ty3 Tryd.ti4 Tryd.E_ty4
-- Tryd.ti5 Tryd.E_ty5 Tryd.ti6 Tryd.E_ty6 Tryd.ti7 Tryd.E_ty7 Tryd.ti8 Tryd.E_ty8
-- Tryd.ti9 Tryd.E_ty9 Tryd.ti10 Tryd.E_ty10 Tryd.ti11 Tryd.E_ty11 Tryd.ti12 Tryd.E_ty12
-- Tryd.ti13 Tryd.E_ty13 Tryd.ti14 Tryd.E_ty14 Tryd.ti15 Tryd.E_ty15 Tryd.ti16 Tryd.E_ty16
-- Tryd.ti17 Tryd.E_ty17 Tryd.ti18 Tryd.E_ty18 Tryd.ti19 Tryd.E_ty19 Tryd.ti21 Tryd.E_ty21
-- Tryd.ti22 Tryd.E_ty22 Tryd.ti23 Tryd.E_ty23 Tryd.ti24 Tryd.E_ty24 Tryd.ti25 Tryd.E_ty25
-- Tryd.ti26 Tryd.E_ty26 Tryd.ti28 Tryd.E_ty28 Tryd.ti29 Tryd.E_ty29 Tryd.ti30 Tryd.E_ty30
-- Tryd.ti31 Tryd.E_ty31 Tryd.ti32 Tryd.E_ty32 Tryd.ti33 Tryd.E_ty33 Tryd.ti35 Tryd.E_ty35
-- Tryd.ti36 Tryd.E_ty36 Tryd.ti38 Tryd.E_ty38 Tryd.ti39 Tryd.E_ty39 Tryd.ti40 Tryd.E_ty40
-- Tryd.ti41 Tryd.E_ty41 Tryd.ti42 Tryd.E_ty42 Tryd.ti44 Tryd.E_ty44 Tryd.ti46 Tryd.E_ty46
-- Tryd.ti47 Tryd.E_ty47 Tryd.ti48 Tryd.E_ty48 Tryd.ti49 Tryd.E_ty49 Tryd.ti50 Tryd.E_ty50
-- Tryd.ti51 Tryd.E_ty51 Tryd.ti52 Tryd.E_ty52 Tryd.ti53 Tryd.E_ty53 Tryd.ti54 Tryd.E_ty54
-- Tryd.ti55 Tryd.E_ty55 Tryd.ti56 Tryd.E_ty56 Tryd.ti57 Tryd.E_ty57 Tryd.ti58 Tryd.E_ty58
-- Tryd.ti59 Tryd.E_ty59 Tryd.ti60 Tryd.E_ty60 Tryd.ti61 Tryd.E_ty61 Tryd.ti63 Tryd.E_ty63
-- Tryd.ti64 Tryd.E_ty64 Tryd.ti65 Tryd.E_ty65 Tryd.ti66 Tryd.E_ty66 Tryd.ti67 Tryd.E_ty67
-- Tryd.ti68 Tryd.E_ty68 Tryd.ti69 Tryd.E_ty69 Tryd.ti70 Tryd.E_ty70 Tryd.ti71 Tryd.E_ty71
-- Tryd.ti73 Tryd.E_ty73 Tryd.ti74 Tryd.E_ty74 Tryd.ti75 Tryd.E_ty75 Tryd.ti76 Tryd.E_ty76
-- Tryd.ti77 Tryd.E_ty77 Tryd.ti78 Tryd.E_ty78 Tryd.ti79 Tryd.E_ty79 Tryd.ti80 Tryd.E_ty80
-- Tryd.ti81 Tryd.E_ty81 Tryd.ti82 Tryd.E_ty82 Tryd.ti83 Tryd.E_ty83 Tryd.ti84 Tryd.E_ty84
-- Tryd.ti85 Tryd.E_ty85 Tryd.ti86 Tryd.E_ty86 Tryd.ti87 Tryd.E_ty87 Tryd.ti88 Tryd.E_ty88
-- Tryd.ti89 Tryd.E_ty89 Tryd.ti90 Tryd.E_ty90 Tryd.ti91 Tryd.E_ty91 Tryd.ti92 Tryd.E_ty92
-- Tryd.ti93 Tryd.E_ty93 Tryd.ti97 Tryd.E_ty97 Tryd.ti98 Tryd.E_ty98 Tryd.ti99 Tryd.E_ty99
-- Tryd.ti100 Tryd.E_ty100 Tryd.ti101 Tryd.E_ty101 Tryd.ti102 Tryd.E_ty102 Tryd.ti103 Tryd.E_ty103
-- Tryd.ti104 Tryd.E_ty104 Tryd.ti105 Tryd.E_ty105 Tryd.ti106 Tryd.E_ty106 Tryd.ti107 Tryd.E_ty107
-- Tryd.ti108 Tryd.E_ty108 Tryd.ti109 Tryd.E_ty109 Tryd.ti110 Tryd.E_ty110 Tryd.ti112 Tryd.E_ty112
-- Tryd.ti113 Tryd.E_ty113 Tryd.ti114 Tryd.E_ty114 Tryd.ti116 Tryd.E_ty116 Tryd.ti117 Tryd.E_ty117
-- Tryd.ti119 Tryd.E_ty119 Tryd.ti120 Tryd.E_ty120 Tryd.ti121 Tryd.E_ty121 Tryd.ti122 Tryd.E_ty122
-- Tryd.ti123 Tryd.E_ty123 Tryd.ti124 Tryd.E_ty124 Tryd.ti125 Tryd.E_ty125 Tryd.ti126 Tryd.E_ty126
-- Tryd.ti127 Tryd.E_ty127 Tryd.ti128 Tryd.E_ty128 Tryd.ti129 Tryd.E_ty129 Tryd.ti130 Tryd.E_ty130
-- Tryd.ti131 Tryd.E_ty131 Tryd.ti132 Tryd.E_ty132 Tryd.ti133 Tryd.E_ty133 Tryd.ti134 Tryd.E_ty134
-- Tryd.ti135 Tryd.E_ty135 Tryd.ti136 Tryd.E_ty136 Tryd.ti137 Tryd.E_ty137 Tryd.E_go3 Tryd.E_go4
-- Tryd.E_go5 Tryd.E_go6 Tryd.E_go7 Tryd.E_go8 Tryd.E_go9 Tryd.E_go10 Tryd.E_go11 Tryd.E_go12
-- Tryd.E_go13 Tryd.E_go14 Tryd.E_go15 Tryd.E_go16 Tryd.E_go17 Tryd.E_go18 Tryd.E_go19 Tryd.E_go20
-- Tryd.E_go21 Tryd.E_go22 Tryd.E_go23 Tryd.E_go24 Tryd.E_go25 Tryd.E_go26 Tryd.E_go27 Tryd.E_go28
-- Tryd.E_go29 Tryd.E_go30 Tryd.E_go31 Tryd.E_go32 Tryd.E_go33 Tryd.E_go34 Tryd.E_go35 Tryd.E_go36
-- Tryd.E_go37 Tryd.E_go38 Tryd.E_go39 Tryd.E_go40 Tryd.E_go41 Tryd.E_go42 Tryd.E_go43 Tryd.E_go44
-- Tryd.E_go45 Tryd.E_go46 Tryd.E_go50 Tryd.E_go51 Tryd.E_go52 Tryd.E_go53 Tryd.E_go54 Tryd.E_go55
-- Tryd.E_go56 Tryd.E_go57 Tryd.E_go58 Tryd.E_go59 Tryd.E_go60 Tryd.E_go67 Tryd.E_go68 Tryd.E_go69
-- Tryd.E_go70 Tryd.E_go75 Tryd.E_go76 Tryd.E_go78 Tryd.E_x3 Tryd.E_x4 Tryd.E_x5 Tryd.E_x6
-- Tryd.E_x7 Tryd.E_x8 Tryd.E_x9 Tryd.E_x10 Tryd.E_x11 Tryd.E_x12 Tryd.E_x13 Tryd.E_x14
-- Tryd.E_x15 Tryd.E_x16 Tryd.E_x17 Tryd.E_x18 Tryd.E_x19 Tryd.E_x20 Tryd.E_x21 Tryd.E_x22
-- Tryd.E_x23 Tryd.E_x24 Tryd.E_x25 Tryd.E_x26 Tryd.E_x27 Tryd.E_x28 Tryd.E_x29 Tryd.E_x30
-- Tryd.E_x31 Tryd.E_x32 Tryd.E_x33 Tryd.E_x34 Tryd.E_x35 Tryd.E_x36 Tryd.E_x37 Tryd.E_x38
-- Tryd.E_x39 Tryd.E_x40 Tryd.E_x41 Tryd.E_x42 Tryd.E_x43 Tryd.E_x44 Tryd.E_x45 Tryd.E_x46
-- Tryd.E_x50 Tryd.E_x51 Tryd.E_x52 Tryd.E_x53 Tryd.E_x54 Tryd.E_x55 Tryd.E_x56 Tryd.E_x57
-- Tryd.E_x58 Tryd.E_x59 Tryd.E_x60 Tryd.E_x67 Tryd.E_x68 Tryd.E_x69 Tryd.E_x70 Tryd.E_x75
-- Tryd.E_x76 Tryd.E_x78 Tryd.E_g0 Tryd.E_g1
end Go.Proofs
