import Derived.Test.YtcnnogimaikicaaDoorProg
import Derived.Test.YtcnnogimaikicaaDoorZzae
import Derived.KernelRfl
set_option linter.unusedSimpArgs false
set_option linter.unusedVariables false
namespace Go.Proofs
open Go Go.V
set_option maxRecDepth 100000
def Tryd.ti1 : TI := ⟨1, 8, .other, some (.raw .nilFunc), false, false⟩
def Tryd.ti2 : TI := ⟨1, 8, .int .i64, some (.int .i64 0), false, false⟩
def Tryd.ti3 : TI := Tryd.ti2
def Tryd.ti4 : TI := ⟨1, 1, .bool, some (.bool false), false, false⟩
def Tryd.ti5 : TI := ⟨1, 1, .int .u8, some (.u8 0), false, false⟩
def Tryd.ti6 : TI := Tryd.ti5
def Tryd.ti7 : TI := ⟨4, 24, .str [(0, 2), (1, 3), (2, 4), (3, 6)], some (.agg [.int .i64 0, .int .i64 0, .bool false, .u8 0]), false, false⟩
def Tryd.ti8 : TI := Tryd.ti7
def Tryd.ti9 : TI := ⟨1, 16, .string, some (.str []), false, false⟩
def Tryd.ti10 : TI := Tryd.ti9
def Tryd.ti11 : TI := Tryd.ti9
def Tryd.ti12 : TI := ⟨1, 8, .int .u64, some (.u64 0), false, false⟩
def Tryd.ti13 : TI := ⟨2, 24, .str [(0, 9), (1, 12)], some (.agg [.str [], .u64 0]), false, false⟩
def Tryd.ti14 : TI := Tryd.ti13
def Tryd.ti15 : TI := ⟨1, 8, .ptr 126, some (.raw (.pointer none)), false, false⟩
def Tryd.ti16 : TI := ⟨1, 8, .ptr 129, some (.raw (.pointer none)), false, false⟩
def Tryd.ti17 : TI := ⟨1, 8, .ptr 137, some (.raw (.pointer none)), false, false⟩
def Tryd.ti18 : TI := ⟨1, 8, .str [(0, 17)], some (.agg [.raw (.pointer none)]), false, false⟩
def Tryd.ti19 : TI := Tryd.ti18
def Tryd.ti21 : TI := ⟨1, 4, .int .i32, some (.int .i32 0), false, false⟩
def Tryd.ti22 : TI := ⟨1, 24, .slice 3, some (.vec true 1 []), false, false⟩
def Tryd.ti23 : TI := ⟨2, 48, .arr 2 22, some (.agg [.vec true 1 [], .vec true 1 []]), false, false⟩
def Tryd.ti24 : TI := ⟨1, 24, .slice 22, some (.vec true 1 []), false, false⟩
def Tryd.ti25 : TI := ⟨6, 120, .str [(0, 9), (1, 4), (2, 22), (3, 23), (5, 24)], some (.agg [.str [], .bool false, .vec true 1 [], .agg [.vec true 1 [], .vec true 1 []], .vec true 1 []]), false, false⟩
def Tryd.ti26 : TI := Tryd.ti25
def Tryd.ti28 : TI := Tryd.ti1
def Tryd.ti29 : TI := Tryd.ti1
def Tryd.ti30 : TI := Tryd.ti2
def Tryd.ti31 : TI := Tryd.ti1
def Tryd.ti32 : TI := Tryd.ti1
def Tryd.ti33 : TI := Tryd.ti1
def Tryd.ti35 : TI := Tryd.ti1
def Tryd.ti36 : TI := ⟨1, 24, .slice 39, some (.vec true 2 []), false, false⟩
def Tryd.ti38 : TI := Tryd.ti1
def Tryd.ti39 : TI := ⟨2, 16, .arr 2 3, some (.agg [.int .i64 0, .int .i64 0]), true, false⟩
def Tryd.ti40 : TI := Tryd.ti1
def Tryd.ti41 : TI := Tryd.ti1
def Tryd.ti42 : TI := Tryd.ti1
def Tryd.ti44 : TI := Tryd.ti1
def Tryd.ti46 : TI := Tryd.ti1
def Tryd.ti47 : TI := Tryd.ti1
def Tryd.ti48 : TI := Tryd.ti1
def Tryd.ti49 : TI := ⟨6, 96, .arr 6 9, some (.agg [.str [], .str [], .str [], .str [], .str [], .str []]), true, false⟩
def Tryd.ti50 : TI := Tryd.ti1
def Tryd.ti51 : TI := Tryd.ti1
def Tryd.ti52 : TI := ⟨1, 8, .ptr 58, some (.raw (.pointer none)), false, false⟩
def Tryd.ti53 : TI := ⟨3, 3, .str [(0, 4), (1, 4), (2, 4)], some (.agg [.bool false, .bool false, .bool false]), true, true⟩
def Tryd.ti54 : TI := Tryd.ti53
def Tryd.ti55 : TI := ⟨6, 6, .arr 2 54, some (.agg [.agg [.bool false, .bool false, .bool false], .agg [.bool false, .bool false, .bool false]]), true, false⟩
def Tryd.ti56 : TI := ⟨8, 8, .arr 8 4, some (.agg [.bool false, .bool false, .bool false, .bool false, .bool false, .bool false, .bool false, .bool false]), true, false⟩
def Tryd.ti57 : TI := ⟨15, 15, .str [(0, 55), (6, 56), (14, 4)], some (.agg [.agg [.agg [.bool false, .bool false, .bool false], .agg [.bool false, .bool false, .bool false]], .agg [.bool false, .bool false, .bool false, .bool false, .bool false, .bool false, .bool false, .bool false], .bool false]), true, true⟩
def Tryd.ti58 : TI := Tryd.ti57
def Tryd.ti59 : TI := Tryd.ti1
def Tryd.ti60 : TI := Tryd.ti1
def Tryd.ti61 : TI := ⟨1, 24, .slice 65, some (.vec true 4 []), false, false⟩
def Tryd.ti63 : TI := Tryd.ti1
def Tryd.ti64 : TI := ⟨4, 48, .str [(0, 3), (1, 3), (2, 3), (3, 61)], some (.agg [.int .i64 0, .int .i64 0, .int .i64 0, .vec true 4 []]), false, false⟩
def Tryd.ti65 : TI := Tryd.ti64
def Tryd.ti66 : TI := Tryd.ti1
def Tryd.ti67 : TI := Tryd.ti1
def Tryd.ti68 : TI := Tryd.ti1
def Tryd.ti69 : TI := Tryd.ti1
def Tryd.ti70 : TI := ⟨1, 24, .slice 9, some (.vec true 1 []), false, false⟩
def Tryd.ti71 : TI := Tryd.ti1
def Tryd.ti73 : TI := Tryd.ti1
def Tryd.ti74 : TI := Tryd.ti1
def Tryd.ti75 : TI := Tryd.ti1
def Tryd.ti76 : TI := Tryd.ti1
def Tryd.ti77 : TI := ⟨1, 8, .ptr 4, some (.raw (.pointer none)), false, false⟩
def Tryd.ti78 : TI := ⟨4, 32, .arr 2 39, some (.agg [.agg [.int .i64 0, .int .i64 0], .agg [.int .i64 0, .int .i64 0]]), true, false⟩
def Tryd.ti79 : TI := ⟨1, 8, .ptr 81, some (.raw (.pointer none)), false, false⟩
def Tryd.ti80 : TI := ⟨11, 136, .str [(0, 65), (4, 65), (8, 4), (9, 3), (10, 61)], some (.agg [.agg [.int .i64 0, .int .i64 0, .int .i64 0, .vec true 4 []], .agg [.int .i64 0, .int .i64 0, .int .i64 0, .vec true 4 []], .bool false, .int .i64 0, .vec true 4 []]), false, false⟩
def Tryd.ti81 : TI := Tryd.ti80
def Tryd.ti82 : TI := Tryd.ti1
def Tryd.ti83 : TI := Tryd.ti1
def Tryd.ti84 : TI := Tryd.ti1
def Tryd.ti85 : TI := Tryd.ti1
def Tryd.ti86 : TI := Tryd.ti61
def Tryd.ti87 : TI := Tryd.ti1
def Tryd.ti88 : TI := Tryd.ti1
def Tryd.ti89 : TI := ⟨1, 8, .ptr 92, some (.raw (.pointer none)), false, false⟩
def Tryd.ti90 : TI := ⟨1, 24, .slice 5, some (.vec8 true []), false, false⟩
def Tryd.ti91 : TI := ⟨2, 32, .str [(0, 89), (1, 90)], some (.agg [.raw (.pointer none), .vec8 true []]), false, false⟩
def Tryd.ti92 : TI := Tryd.ti91
def Tryd.ti93 : TI := Tryd.ti1
def Tryd.ti97 : TI := Tryd.ti1
def Tryd.ti98 : TI := Tryd.ti1
def Tryd.ti99 : TI := Tryd.ti1
def Tryd.ti100 : TI := Tryd.ti1
def Tryd.ti101 : TI := Tryd.ti1
def Tryd.ti102 : TI := Tryd.ti1
def Tryd.ti103 : TI := Tryd.ti1
def Tryd.ti104 : TI := ⟨1, 8, .ptr 5, some (.raw (.pointer none)), false, false⟩
def Tryd.ti105 : TI := Tryd.ti1
def Tryd.ti106 : TI := Tryd.ti1
def Tryd.ti107 : TI := Tryd.ti1
def Tryd.ti108 : TI := Tryd.ti12
def Tryd.ti109 : TI := Tryd.ti1
def Tryd.ti110 : TI := Tryd.ti1
def Tryd.ti112 : TI := Tryd.ti1
def Tryd.ti113 : TI := Tryd.ti1
def Tryd.ti114 : TI := ⟨1, 4, .int .u32, some (.u32 0), false, false⟩
def Tryd.ti116 : TI := Tryd.ti1
def Tryd.ti117 : TI := Tryd.ti1
def Tryd.ti119 : TI := Tryd.ti1
def Tryd.ti120 : TI := ⟨8, 64, .arr 8 3, some (.agg [.int .i64 0, .int .i64 0, .int .i64 0, .int .i64 0, .int .i64 0, .int .i64 0, .int .i64 0, .int .i64 0]), true, false⟩
def Tryd.ti121 : TI := ⟨256, 256, .arr 256 5, some (.b8 256 (List.replicate 256 0)), true, false⟩
def Tryd.ti122 : TI := ⟨2, 2, .str [(0, 5), (1, 5)], some (.agg [.u8 0, .u8 0]), true, true⟩
def Tryd.ti123 : TI := Tryd.ti122
def Tryd.ti124 : TI := ⟨32, 32, .arr 16 123, some (.agg [.agg [.u8 0, .u8 0], .agg [.u8 0, .u8 0], .agg [.u8 0, .u8 0], .agg [.u8 0, .u8 0], .agg [.u8 0, .u8 0], .agg [.u8 0, .u8 0], .agg [.u8 0, .u8 0], .agg [.u8 0, .u8 0], .agg [.u8 0, .u8 0], .agg [.u8 0, .u8 0], .agg [.u8 0, .u8 0], .agg [.u8 0, .u8 0], .agg [.u8 0, .u8 0], .agg [.u8 0, .u8 0], .agg [.u8 0, .u8 0], .agg [.u8 0, .u8 0]]), true, false⟩
def Tryd.ti125 : TI := ⟨4, 40, .str [(0, 17), (1, 17), (2, 17), (3, 9)], some (.agg [.raw (.pointer none), .raw (.pointer none), .raw (.pointer none), .str []]), false, false⟩
def Tryd.ti126 : TI := Tryd.ti125
def Tryd.ti127 : TI := ⟨0, 0, .arr 0 16, some (.agg []), false, false⟩
def Tryd.ti128 : TI := ⟨0, 0, .str [(0, 127)], some (.agg []), false, false⟩
def Tryd.ti129 : TI := Tryd.ti128
def Tryd.ti130 : TI := Tryd.ti1
def Tryd.ti131 : TI := Tryd.ti5
def Tryd.ti132 : TI := Tryd.ti5
def Tryd.ti133 : TI := Tryd.ti1
def Tryd.ti134 : TI := Tryd.ti21
def Tryd.ti135 : TI := Tryd.ti21
def Tryd.ti136 : TI := ⟨11, 48, .str [(0, 12), (1, 12), (2, 114), (3, 131), (4, 5), (5, 5), (6, 132), (7, 133), (8, 104), (9, 134), (10, 135)], some (.agg [.u64 0, .u64 0, .u32 0, .u8 0, .u8 0, .u8 0, .u8 0, .raw .nilFunc, .raw (.pointer none), .int .i32 0, .int .i32 0]), false, false⟩
def Tryd.ti137 : TI := Tryd.ti136
def Tryd.tis : List (Option TI) := [none, some Tryd.ti1, some Tryd.ti2, some Tryd.ti3, some Tryd.ti4, some Tryd.ti5, some Tryd.ti6, some Tryd.ti7, some Tryd.ti8, some Tryd.ti9, some Tryd.ti10, some Tryd.ti11, some Tryd.ti12, some Tryd.ti13, some Tryd.ti14, some Tryd.ti15, some Tryd.ti16, some Tryd.ti17, some Tryd.ti18, some Tryd.ti19, none, some Tryd.ti21, some Tryd.ti22, some Tryd.ti23, some Tryd.ti24, some Tryd.ti25, some Tryd.ti26, none, some Tryd.ti28, some Tryd.ti29, some Tryd.ti30, some Tryd.ti31, some Tryd.ti32, some Tryd.ti33, none, some Tryd.ti35, some Tryd.ti36, none, some Tryd.ti38, some Tryd.ti39, some Tryd.ti40, some Tryd.ti41, some Tryd.ti42, none, some Tryd.ti44, none, some Tryd.ti46, some Tryd.ti47, some Tryd.ti48, some Tryd.ti49, some Tryd.ti50, some Tryd.ti51, some Tryd.ti52, some Tryd.ti53, some Tryd.ti54, some Tryd.ti55, some Tryd.ti56, some Tryd.ti57, some Tryd.ti58, some Tryd.ti59, some Tryd.ti60, some Tryd.ti61, none, some Tryd.ti63, some Tryd.ti64, some Tryd.ti65, some Tryd.ti66, some Tryd.ti67, some Tryd.ti68, some Tryd.ti69, some Tryd.ti70, some Tryd.ti71, none, some Tryd.ti73, some Tryd.ti74, some Tryd.ti75, some Tryd.ti76, some Tryd.ti77, some Tryd.ti78, some Tryd.ti79, some Tryd.ti80, some Tryd.ti81, some Tryd.ti82, some Tryd.ti83, some Tryd.ti84, some Tryd.ti85, some Tryd.ti86, some Tryd.ti87, some Tryd.ti88, some Tryd.ti89, some Tryd.ti90, some Tryd.ti91, some Tryd.ti92, some Tryd.ti93, none, none, none, some Tryd.ti97, some Tryd.ti98, some Tryd.ti99, some Tryd.ti100, some Tryd.ti101, some Tryd.ti102, some Tryd.ti103, some Tryd.ti104, some Tryd.ti105, some Tryd.ti106, some Tryd.ti107, some Tryd.ti108, some Tryd.ti109, some Tryd.ti110, none, some Tryd.ti112, some Tryd.ti113, some Tryd.ti114, none, some Tryd.ti116, some Tryd.ti117, none, some Tryd.ti119, some Tryd.ti120, some Tryd.ti121, some Tryd.ti122, some Tryd.ti123, some Tryd.ti124, some Tryd.ti125, some Tryd.ti126, some Tryd.ti127, some Tryd.ti128, some Tryd.ti129, some Tryd.ti130, some Tryd.ti131, some Tryd.ti132, some Tryd.ti133, some Tryd.ti134, some Tryd.ti135, some Tryd.ti136, some Tryd.ti137]
theorem Tryd.tisOk : ((List.range Tryd.tis.length).all fun t => match Tryd.tis[t]? with | some (some i) => tiOkB Tryd.prog t i | _ => true) = true := by kernel_rfl
def Tryd.gos : List Nat := [3, 4, 5, 6, 7, 8, 9, 10, 11, 12, 13, 14, 15, 16, 17, 18, 19, 20, 21, 22, 23, 24, 25, 26, 27, 28, 29, 30, 31, 32, 33, 34, 35, 36, 37, 38, 39, 40, 41, 42, 43, 44, 45, 46, 50, 51, 52, 53, 54, 55, 56, 57, 58, 59, 60, 67, 68, 69, 70, 75, 76, 78]
theorem Tryd.gosOk : Tryd.gos.all (goFnB Tryd.prog) = true := by kernel_rfl
def Tryd.xk (f : Nat) : FK := FK.go
theorem Tryd.addOk : ∀ f, Tryd.xk f = .add64 → IsExt Tryd.prog f add64Entry := by
 intro f h
 have : Tryd.xk f = .go := by
  unfold Tryd.xk
  rfl
 rw [this] at h; exact absurd h (by decide)
theorem Tryd.subOk : ∀ f, Tryd.xk f = .sub64 → IsExt Tryd.prog f sub64Entry := by
 intro f h
 have : Tryd.xk f = .go := by
  unfold Tryd.xk
  rfl
 rw [this] at h; exact absurd h (by decide)
def Tryd.gl (g : Nat) : Option (List AV) := bif g == 0 then some [.str [78, 78], .str [78, 75], .str [88, 88], .str [73, 75], .str [88, 75], .str [75, 75]] else bif g == 1 then some [.any] else none
noncomputable def Tryd.E : Env Tryd.prog where
 ty := fun t => oget Tryd.tis t
 g := Tryd.gl
 x := Tryd.xk
 go := fun f => Tryd.gos.contains f
 tyOk := fun t i h => tyOk_of Tryd.tisOk t i ((oget_eq _ _).symm.trans h)
 addOk := Tryd.addOk
 subOk := Tryd.subOk
 goOk := fun f h => goFn_of (List.all_eq_true.1 Tryd.gosOk f (by simpa using h))
 follows := by kernel_rfl
end Go.Proofs