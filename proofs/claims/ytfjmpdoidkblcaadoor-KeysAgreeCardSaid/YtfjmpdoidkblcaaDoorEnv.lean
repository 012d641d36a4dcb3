/- This seat's translation as the abstract layer knows it (wip tools env.py): types, functions, package-level variables. -/
import Derived.Test.YtfjmpdoidkblcaaDoorProg
import Derived.Test.YtfjmpdoidkblcaaDoorW2
import Derived.KernelRfl

set_option linter.unusedSimpArgs false
set_option linter.unusedVariables false
namespace Go.Proofs
open Go Go.V

def Tryd.ti2 : TI := ⟨1, 8, .int .i64, some (.int .i64 0), false, false⟩
def Tryd.ti3 : TI := ⟨1, 8, .int .i64, some (.int .i64 0), false, false⟩
def Tryd.ti4 : TI := ⟨1, 1, .bool, some (.bool false), false, false⟩
def Tryd.ti5 : TI := ⟨1, 1, .int .u8, some (.u8 0), false, false⟩
def Tryd.ti6 : TI := ⟨1, 1, .int .u8, some (.u8 0), false, false⟩
def Tryd.ti7 : TI := ⟨4, 24, .str [(0, 2), (1, 3), (2, 4), (3, 6)], some (.agg [.int .i64 0, .int .i64 0, .bool false, .u8 0]), false, false⟩
def Tryd.ti8 : TI := ⟨4, 24, .str [(0, 2), (1, 3), (2, 4), (3, 6)], some (.agg [.int .i64 0, .int .i64 0, .bool false, .u8 0]), false, false⟩
def Tryd.ti9 : TI := ⟨1, 16, .string, some (.str []), false, false⟩
def Tryd.ti10 : TI := ⟨1, 16, .string, some (.str []), false, false⟩
def Tryd.ti11 : TI := ⟨1, 16, .string, some (.str []), false, false⟩
def Tryd.ti12 : TI := ⟨1, 8, .int .u64, some (.u64 0), false, false⟩
def Tryd.ti13 : TI := ⟨2, 24, .str [(0, 9), (1, 12)], some (.agg [.str [], .u64 0]), false, false⟩
def Tryd.ti14 : TI := ⟨2, 24, .str [(0, 9), (1, 12)], some (.agg [.str [], .u64 0]), false, false⟩
def Tryd.ti15 : TI := ⟨1, 8, .ptr 66, some (.raw (.pointer none)), false, false⟩
def Tryd.ti16 : TI := ⟨1, 8, .ptr 69, some (.raw (.pointer none)), false, false⟩
def Tryd.ti17 : TI := ⟨1, 8, .ptr 79, some (.raw (.pointer none)), false, false⟩
def Tryd.ti18 : TI := ⟨1, 8, .str [(0, 17)], some (.agg [.raw (.pointer none)]), false, false⟩
def Tryd.ti19 : TI := ⟨1, 8, .str [(0, 17)], some (.agg [.raw (.pointer none)]), false, false⟩
def Tryd.ti21 : TI := ⟨1, 4, .int .i32, some (.int .i32 0), false, false⟩
def Tryd.ti22 : TI := ⟨32, 32, .arr 32 5, some (.b8 32 [0, 0, 0, 0, 0, 0, 0, 0, 0, 0, 0, 0, 0, 0, 0, 0, 0, 0, 0, 0, 0, 0, 0, 0, 0, 0, 0, 0, 0, 0, 0, 0]), true, false⟩
def Tryd.ti23 : TI := ⟨1, 8, .int .u64, some (.u64 0), false, false⟩
def Tryd.ti24 : TI := ⟨4, 32, .arr 4 23, some (.w64 4 [0, 0, 0, 0]), true, false⟩
def Tryd.ti25 : TI := ⟨4, 32, .arr 4 23, some (.w64 4 [0, 0, 0, 0]), true, false⟩
def Tryd.ti27 : TI := ⟨1, 8, .int .i64, some (.int .i64 0), false, false⟩
def Tryd.ti38 : TI := ⟨32, 32, .arr 32 5, some (.b8 32 [0, 0, 0, 0, 0, 0, 0, 0, 0, 0, 0, 0, 0, 0, 0, 0, 0, 0, 0, 0, 0, 0, 0, 0, 0, 0, 0, 0, 0, 0, 0, 0]), true, false⟩
def Tryd.ti43 : TI := ⟨1, 24, .slice 38, some (.vec true 32 []), false, false⟩
def Tryd.ti44 : TI := ⟨1, 24, .slice 5, some (.vec8 true []), false, false⟩
def Tryd.ti45 : TI := ⟨1, 24, .slice 9, some (.vec true 1 []), false, false⟩
def Tryd.ti51 : TI := ⟨8, 64, .arr 2 25, some (.agg [.w64 4 [0, 0, 0, 0], .w64 4 [0, 0, 0, 0]]), true, false⟩
def Tryd.ti52 : TI := ⟨16, 128, .str [(0, 51), (8, 51)], some (.agg [.agg [.w64 4 [0, 0, 0, 0], .w64 4 [0, 0, 0, 0]], .agg [.w64 4 [0, 0, 0, 0], .w64 4 [0, 0, 0, 0]]]), true, true⟩
def Tryd.ti53 : TI := ⟨16, 128, .str [(0, 51), (8, 51)], some (.agg [.agg [.w64 4 [0, 0, 0, 0], .w64 4 [0, 0, 0, 0]], .agg [.w64 4 [0, 0, 0, 0], .w64 4 [0, 0, 0, 0]]]), true, true⟩
def Tryd.ti61 : TI := ⟨8, 64, .arr 8 23, some (.w64 8 [0, 0, 0, 0, 0, 0, 0, 0]), true, false⟩
def Tryd.ti63 : TI := ⟨1, 8, .int .u64, some (.u64 0), false, false⟩
def Tryd.ti65 : TI := ⟨4, 40, .str [(0, 17), (1, 17), (2, 17), (3, 9)], some (.agg [.raw (.pointer none), .raw (.pointer none), .raw (.pointer none), .str []]), false, false⟩
def Tryd.ti66 : TI := ⟨4, 40, .str [(0, 17), (1, 17), (2, 17), (3, 9)], some (.agg [.raw (.pointer none), .raw (.pointer none), .raw (.pointer none), .str []]), false, false⟩
def Tryd.ti67 : TI := ⟨0, 0, .arr 0 16, some (.agg []), false, false⟩
def Tryd.ti68 : TI := ⟨0, 0, .str [(0, 67)], some (.agg []), false, false⟩
def Tryd.ti69 : TI := ⟨0, 0, .str [(0, 67)], some (.agg []), false, false⟩
def Tryd.ti71 : TI := ⟨1, 4, .int .u32, some (.u32 0), false, false⟩
def Tryd.ti72 : TI := ⟨1, 1, .int .u8, some (.u8 0), false, false⟩
def Tryd.ti73 : TI := ⟨1, 1, .int .u8, some (.u8 0), false, false⟩
def Tryd.ti75 : TI := ⟨1, 8, .ptr 5, some (.raw (.pointer none)), false, false⟩
def Tryd.ti76 : TI := ⟨1, 4, .int .i32, some (.int .i32 0), false, false⟩
def Tryd.ti77 : TI := ⟨1, 4, .int .i32, some (.int .i32 0), false, false⟩
def Tryd.ti78 : TI := ⟨11, 48, .str [(0, 12), (1, 12), (2, 71), (3, 72), (4, 5), (5, 5), (6, 73), (7, 74), (8, 75), (9, 76), (10, 77)], some (.agg [.u64 0, .u64 0, .u32 0, .u8 0, .u8 0, .u8 0, .u8 0, .raw .nilFunc, .raw (.pointer none), .int .i32 0, .int .i32 0]), false, false⟩
def Tryd.ti79 : TI := ⟨11, 48, .str [(0, 12), (1, 12), (2, 71), (3, 72), (4, 5), (5, 5), (6, 73), (7, 74), (8, 75), (9, 76), (10, 77)], some (.agg [.u64 0, .u64 0, .u32 0, .u8 0, .u8 0, .u8 0, .u8 0, .raw .nilFunc, .raw (.pointer none), .int .i32 0, .int .i32 0]), false, false⟩
def Tryd.tis : List (Option TI) := [none, none, some Tryd.ti2, some Tryd.ti3, some Tryd.ti4, some Tryd.ti5, some Tryd.ti6, some Tryd.ti7, some Tryd.ti8, some Tryd.ti9, some Tryd.ti10, some Tryd.ti11, some Tryd.ti12, some Tryd.ti13, some Tryd.ti14, some Tryd.ti15, some Tryd.ti16, some Tryd.ti17, some Tryd.ti18, some Tryd.ti19, none, some Tryd.ti21, some Tryd.ti22, some Tryd.ti23, some Tryd.ti24, some Tryd.ti25, none, some Tryd.ti27, none, none, none, none, none, none, none, none, none, none, some Tryd.ti38, none, none, none, none, some Tryd.ti43, some Tryd.ti44, some Tryd.ti45, none, none, none, none, none, some Tryd.ti51, some Tryd.ti52, some Tryd.ti53, none, none, none, none, none, none, none, some Tryd.ti61, none, some Tryd.ti63, none, some Tryd.ti65, some Tryd.ti66, some Tryd.ti67, some Tryd.ti68, some Tryd.ti69, none, some Tryd.ti71, some Tryd.ti72, some Tryd.ti73, none, some Tryd.ti75, some Tryd.ti76, some Tryd.ti77, some Tryd.ti78, some Tryd.ti79, none]
theorem Tryd.tisOk : ((List.range Tryd.tis.length).all fun t => match Tryd.tis[t]? with | some (some i) => tiOkB Tryd.prog t i | _ => true) = true := by kernel_rfl
def Tryd.gos : List Nat := [3, 4, 5, 6, 7, 8, 9, 10, 11, 12, 13, 14, 15, 16, 17, 18, 19, 20, 21, 22, 23, 24, 25, 26, 27, 28, 29, 30, 31, 32, 34, 35, 36, 37, 38]
theorem Tryd.gosOk : Tryd.gos.all (goFnB Tryd.prog) = true := by kernel_rfl
def Tryd.xk (f : Nat) : FK := bif f == 33 then FK.add64 else bif f == 39 then FK.sub64 else FK.go
theorem Tryd.addOk : ∀ f, Tryd.xk f = .add64 → IsExt Tryd.prog f add64Entry := by
  intro f h
  by_cases e33 : f = 33
  · subst e33; exact fun args w => run_callFunc_extern Tryd.func33 (by kernel_rfl) (by kernel_rfl) (by kernel_rfl) (by kernel_rfl) args w
  by_cases e39 : f = 39
  · subst e39; exact absurd h (by decide)
  have : Tryd.xk f = .go := by
    unfold Tryd.xk
    rw [show (f == 33) = false by simpa using e33]
    rw [show (f == 39) = false by simpa using e39]
    rfl
  rw [this] at h; exact absurd h (by decide)
theorem Tryd.subOk : ∀ f, Tryd.xk f = .sub64 → IsExt Tryd.prog f sub64Entry := by
  intro f h
  by_cases e33 : f = 33
  · subst e33; exact absurd h (by decide)
  by_cases e39 : f = 39
  · subst e39; exact fun args w => run_callFunc_extern Tryd.func39 (by kernel_rfl) (by kernel_rfl) (by kernel_rfl) (by kernel_rfl) args w
  have : Tryd.xk f = .go := by
    unfold Tryd.xk
    rw [show (f == 33) = false by simpa using e33]
    rw [show (f == 39) = false by simpa using e39]
    rfl
  rw [this] at h; exact absurd h (by decide)
def Tryd.gl (g : Nat) : Option (List AV) := bif g == 0 then some [.w64 4 [18446744073709551597, 18446744073709551615, 18446744073709551615, 9223372036854775807]] else none
def Tryd.E : Env Tryd.prog where
  ty := fun t => (Tryd.tis[t]?).join
  g := Tryd.gl
  x := Tryd.xk
  go := fun f => Tryd.gos.contains f
  tyOk := tyOk_of Tryd.tisOk
  addOk := Tryd.addOk
  subOk := Tryd.subOk
  goOk := fun f h => goFn_of (List.all_eq_true.1 Tryd.gosOk f (by simpa using h))
  follows := by kernel_rfl
theorem Tryd.E_ty2 : Tryd.E.ty 2 = some ⟨1, 8, .int .i64, some (.int .i64 0), false, false⟩ := rfl
theorem Tryd.E_ty3 : Tryd.E.ty 3 = some ⟨1, 8, .int .i64, some (.int .i64 0), false, false⟩ := rfl
theorem Tryd.E_ty4 : Tryd.E.ty 4 = some ⟨1, 1, .bool, some (.bool false), false, false⟩ := rfl
theorem Tryd.E_ty5 : Tryd.E.ty 5 = some ⟨1, 1, .int .u8, some (.u8 0), false, false⟩ := rfl
theorem Tryd.E_ty6 : Tryd.E.ty 6 = some ⟨1, 1, .int .u8, some (.u8 0), false, false⟩ := rfl
theorem Tryd.E_ty7 : Tryd.E.ty 7 = some ⟨4, 24, .str [(0, 2), (1, 3), (2, 4), (3, 6)], some (.agg [.int .i64 0, .int .i64 0, .bool false, .u8 0]), false, false⟩ := rfl
theorem Tryd.E_ty8 : Tryd.E.ty 8 = some ⟨4, 24, .str [(0, 2), (1, 3), (2, 4), (3, 6)], some (.agg [.int .i64 0, .int .i64 0, .bool false, .u8 0]), false, false⟩ := rfl
theorem Tryd.E_ty9 : Tryd.E.ty 9 = some ⟨1, 16, .string, some (.str []), false, false⟩ := rfl
theorem Tryd.E_ty10 : Tryd.E.ty 10 = some ⟨1, 16, .string, some (.str []), false, false⟩ := rfl
theorem Tryd.E_ty11 : Tryd.E.ty 11 = some ⟨1, 16, .string, some (.str []), false, false⟩ := rfl
theorem Tryd.E_ty12 : Tryd.E.ty 12 = some ⟨1, 8, .int .u64, some (.u64 0), false, false⟩ := rfl
theorem Tryd.E_ty13 : Tryd.E.ty 13 = some ⟨2, 24, .str [(0, 9), (1, 12)], some (.agg [.str [], .u64 0]), false, false⟩ := rfl
theorem Tryd.E_ty14 : Tryd.E.ty 14 = some ⟨2, 24, .str [(0, 9), (1, 12)], some (.agg [.str [], .u64 0]), false, false⟩ := rfl
theorem Tryd.E_ty15 : Tryd.E.ty 15 = some ⟨1, 8, .ptr 66, some (.raw (.pointer none)), false, false⟩ := rfl
theorem Tryd.E_ty16 : Tryd.E.ty 16 = some ⟨1, 8, .ptr 69, some (.raw (.pointer none)), false, false⟩ := rfl
theorem Tryd.E_ty17 : Tryd.E.ty 17 = some ⟨1, 8, .ptr 79, some (.raw (.pointer none)), false, false⟩ := rfl
theorem Tryd.E_ty18 : Tryd.E.ty 18 = some ⟨1, 8, .str [(0, 17)], some (.agg [.raw (.pointer none)]), false, false⟩ := rfl
theorem Tryd.E_ty19 : Tryd.E.ty 19 = some ⟨1, 8, .str [(0, 17)], some (.agg [.raw (.pointer none)]), false, false⟩ := rfl
theorem Tryd.E_ty21 : Tryd.E.ty 21 = some ⟨1, 4, .int .i32, some (.int .i32 0), false, false⟩ := rfl
theorem Tryd.E_ty22 : Tryd.E.ty 22 = some ⟨32, 32, .arr 32 5, some (.b8 32 [0, 0, 0, 0, 0, 0, 0, 0, 0, 0, 0, 0, 0, 0, 0, 0, 0, 0, 0, 0, 0, 0, 0, 0, 0, 0, 0, 0, 0, 0, 0, 0]), true, false⟩ := rfl
theorem Tryd.E_ty23 : Tryd.E.ty 23 = some ⟨1, 8, .int .u64, some (.u64 0), false, false⟩ := rfl
theorem Tryd.E_ty24 : Tryd.E.ty 24 = some ⟨4, 32, .arr 4 23, some (.w64 4 [0, 0, 0, 0]), true, false⟩ := rfl
theorem Tryd.E_ty25 : Tryd.E.ty 25 = some ⟨4, 32, .arr 4 23, some (.w64 4 [0, 0, 0, 0]), true, false⟩ := rfl
theorem Tryd.E_ty27 : Tryd.E.ty 27 = some ⟨1, 8, .int .i64, some (.int .i64 0), false, false⟩ := rfl
theorem Tryd.E_ty38 : Tryd.E.ty 38 = some ⟨32, 32, .arr 32 5, some (.b8 32 [0, 0, 0, 0, 0, 0, 0, 0, 0, 0, 0, 0, 0, 0, 0, 0, 0, 0, 0, 0, 0, 0, 0, 0, 0, 0, 0, 0, 0, 0, 0, 0]), true, false⟩ := rfl
theorem Tryd.E_ty43 : Tryd.E.ty 43 = some ⟨1, 24, .slice 38, some (.vec true 32 []), false, false⟩ := rfl
theorem Tryd.E_ty44 : Tryd.E.ty 44 = some ⟨1, 24, .slice 5, some (.vec8 true []), false, false⟩ := rfl
theorem Tryd.E_ty45 : Tryd.E.ty 45 = some ⟨1, 24, .slice 9, some (.vec true 1 []), false, false⟩ := rfl
theorem Tryd.E_ty51 : Tryd.E.ty 51 = some ⟨8, 64, .arr 2 25, some (.agg [.w64 4 [0, 0, 0, 0], .w64 4 [0, 0, 0, 0]]), true, false⟩ := rfl
theorem Tryd.E_ty52 : Tryd.E.ty 52 = some ⟨16, 128, .str [(0, 51), (8, 51)], some (.agg [.agg [.w64 4 [0, 0, 0, 0], .w64 4 [0, 0, 0, 0]], .agg [.w64 4 [0, 0, 0, 0], .w64 4 [0, 0, 0, 0]]]), true, true⟩ := rfl
theorem Tryd.E_ty53 : Tryd.E.ty 53 = some ⟨16, 128, .str [(0, 51), (8, 51)], some (.agg [.agg [.w64 4 [0, 0, 0, 0], .w64 4 [0, 0, 0, 0]], .agg [.w64 4 [0, 0, 0, 0], .w64 4 [0, 0, 0, 0]]]), true, true⟩ := rfl
theorem Tryd.E_ty61 : Tryd.E.ty 61 = some ⟨8, 64, .arr 8 23, some (.w64 8 [0, 0, 0, 0, 0, 0, 0, 0]), true, false⟩ := rfl
theorem Tryd.E_ty63 : Tryd.E.ty 63 = some ⟨1, 8, .int .u64, some (.u64 0), false, false⟩ := rfl
theorem Tryd.E_ty65 : Tryd.E.ty 65 = some ⟨4, 40, .str [(0, 17), (1, 17), (2, 17), (3, 9)], some (.agg [.raw (.pointer none), .raw (.pointer none), .raw (.pointer none), .str []]), false, false⟩ := rfl
theorem Tryd.E_ty66 : Tryd.E.ty 66 = some ⟨4, 40, .str [(0, 17), (1, 17), (2, 17), (3, 9)], some (.agg [.raw (.pointer none), .raw (.pointer none), .raw (.pointer none), .str []]), false, false⟩ := rfl
theorem Tryd.E_ty67 : Tryd.E.ty 67 = some ⟨0, 0, .arr 0 16, some (.agg []), false, false⟩ := rfl
theorem Tryd.E_ty68 : Tryd.E.ty 68 = some ⟨0, 0, .str [(0, 67)], some (.agg []), false, false⟩ := rfl
theorem Tryd.E_ty69 : Tryd.E.ty 69 = some ⟨0, 0, .str [(0, 67)], some (.agg []), false, false⟩ := rfl
theorem Tryd.E_ty71 : Tryd.E.ty 71 = some ⟨1, 4, .int .u32, some (.u32 0), false, false⟩ := rfl
theorem Tryd.E_ty72 : Tryd.E.ty 72 = some ⟨1, 1, .int .u8, some (.u8 0), false, false⟩ := rfl
theorem Tryd.E_ty73 : Tryd.E.ty 73 = some ⟨1, 1, .int .u8, some (.u8 0), false, false⟩ := rfl
theorem Tryd.E_ty75 : Tryd.E.ty 75 = some ⟨1, 8, .ptr 5, some (.raw (.pointer none)), false, false⟩ := rfl
theorem Tryd.E_ty76 : Tryd.E.ty 76 = some ⟨1, 4, .int .i32, some (.int .i32 0), false, false⟩ := rfl
theorem Tryd.E_ty77 : Tryd.E.ty 77 = some ⟨1, 4, .int .i32, some (.int .i32 0), false, false⟩ := rfl
theorem Tryd.E_ty78 : Tryd.E.ty 78 = some ⟨11, 48, .str [(0, 12), (1, 12), (2, 71), (3, 72), (4, 5), (5, 5), (6, 73), (7, 74), (8, 75), (9, 76), (10, 77)], some (.agg [.u64 0, .u64 0, .u32 0, .u8 0, .u8 0, .u8 0, .u8 0, .raw .nilFunc, .raw (.pointer none), .int .i32 0, .int .i32 0]), false, false⟩ := rfl
theorem Tryd.E_ty79 : Tryd.E.ty 79 = some ⟨11, 48, .str [(0, 12), (1, 12), (2, 71), (3, 72), (4, 5), (5, 5), (6, 73), (7, 74), (8, 75), (9, 76), (10, 77)], some (.agg [.u64 0, .u64 0, .u32 0, .u8 0, .u8 0, .u8 0, .u8 0, .raw .nilFunc, .raw (.pointer none), .int .i32 0, .int .i32 0]), false, false⟩ := rfl
theorem Tryd.E_go3 : Tryd.E.go 3 = true := rfl
theorem Tryd.E_go4 : Tryd.E.go 4 = true := rfl
theorem Tryd.E_go5 : Tryd.E.go 5 = true := rfl
theorem Tryd.E_go6 : Tryd.E.go 6 = true := rfl
theorem Tryd.E_go7 : Tryd.E.go 7 = true := rfl
theorem Tryd.E_go8 : Tryd.E.go 8 = true := rfl
theorem Tryd.E_go9 : Tryd.E.go 9 = true := rfl
theorem Tryd.E_go10 : Tryd.E.go 10 = true := rfl
theorem Tryd.E_go11 : Tryd.E.go 11 = true := rfl
theorem Tryd.E_go12 : Tryd.E.go 12 = true := rfl
theorem Tryd.E_go13 : Tryd.E.go 13 = true := rfl
theorem Tryd.E_go14 : Tryd.E.go 14 = true := rfl
theorem Tryd.E_go15 : Tryd.E.go 15 = true := rfl
theorem Tryd.E_go16 : Tryd.E.go 16 = true := rfl
theorem Tryd.E_go17 : Tryd.E.go 17 = true := rfl
theorem Tryd.E_go18 : Tryd.E.go 18 = true := rfl
theorem Tryd.E_go19 : Tryd.E.go 19 = true := rfl
theorem Tryd.E_go20 : Tryd.E.go 20 = true := rfl
theorem Tryd.E_go21 : Tryd.E.go 21 = true := rfl
theorem Tryd.E_go22 : Tryd.E.go 22 = true := rfl
theorem Tryd.E_go23 : Tryd.E.go 23 = true := rfl
theorem Tryd.E_go24 : Tryd.E.go 24 = true := rfl
theorem Tryd.E_go25 : Tryd.E.go 25 = true := rfl
theorem Tryd.E_go26 : Tryd.E.go 26 = true := rfl
theorem Tryd.E_go27 : Tryd.E.go 27 = true := rfl
theorem Tryd.E_go28 : Tryd.E.go 28 = true := rfl
theorem Tryd.E_go29 : Tryd.E.go 29 = true := rfl
theorem Tryd.E_go30 : Tryd.E.go 30 = true := rfl
theorem Tryd.E_go31 : Tryd.E.go 31 = true := rfl
theorem Tryd.E_go32 : Tryd.E.go 32 = true := rfl
theorem Tryd.E_go34 : Tryd.E.go 34 = true := rfl
theorem Tryd.E_go35 : Tryd.E.go 35 = true := rfl
theorem Tryd.E_go36 : Tryd.E.go 36 = true := rfl
theorem Tryd.E_go37 : Tryd.E.go 37 = true := rfl
theorem Tryd.E_go38 : Tryd.E.go 38 = true := rfl
theorem Tryd.E_x3 : Tryd.E.x 3 = .go := rfl
theorem Tryd.E_x4 : Tryd.E.x 4 = .go := rfl
theorem Tryd.E_x5 : Tryd.E.x 5 = .go := rfl
theorem Tryd.E_x6 : Tryd.E.x 6 = .go := rfl
theorem Tryd.E_x7 : Tryd.E.x 7 = .go := rfl
theorem Tryd.E_x8 : Tryd.E.x 8 = .go := rfl
theorem Tryd.E_x9 : Tryd.E.x 9 = .go := rfl
theorem Tryd.E_x10 : Tryd.E.x 10 = .go := rfl
theorem Tryd.E_x11 : Tryd.E.x 11 = .go := rfl
theorem Tryd.E_x12 : Tryd.E.x 12 = .go := rfl
theorem Tryd.E_x13 : Tryd.E.x 13 = .go := rfl
theorem Tryd.E_x14 : Tryd.E.x 14 = .go := rfl
theorem Tryd.E_x15 : Tryd.E.x 15 = .go := rfl
theorem Tryd.E_x16 : Tryd.E.x 16 = .go := rfl
theorem Tryd.E_x17 : Tryd.E.x 17 = .go := rfl
theorem Tryd.E_x18 : Tryd.E.x 18 = .go := rfl
theorem Tryd.E_x19 : Tryd.E.x 19 = .go := rfl
theorem Tryd.E_x20 : Tryd.E.x 20 = .go := rfl
theorem Tryd.E_x21 : Tryd.E.x 21 = .go := rfl
theorem Tryd.E_x22 : Tryd.E.x 22 = .go := rfl
theorem Tryd.E_x23 : Tryd.E.x 23 = .go := rfl
theorem Tryd.E_x24 : Tryd.E.x 24 = .go := rfl
theorem Tryd.E_x25 : Tryd.E.x 25 = .go := rfl
theorem Tryd.E_x26 : Tryd.E.x 26 = .go := rfl
theorem Tryd.E_x27 : Tryd.E.x 27 = .go := rfl
theorem Tryd.E_x28 : Tryd.E.x 28 = .go := rfl
theorem Tryd.E_x29 : Tryd.E.x 29 = .go := rfl
theorem Tryd.E_x30 : Tryd.E.x 30 = .go := rfl
theorem Tryd.E_x31 : Tryd.E.x 31 = .go := rfl
theorem Tryd.E_x32 : Tryd.E.x 32 = .go := rfl
theorem Tryd.E_x33 : Tryd.E.x 33 = .add64 := rfl
theorem Tryd.E_x34 : Tryd.E.x 34 = .go := rfl
theorem Tryd.E_x35 : Tryd.E.x 35 = .go := rfl
theorem Tryd.E_x36 : Tryd.E.x 36 = .go := rfl
theorem Tryd.E_x37 : Tryd.E.x 37 = .go := rfl
theorem Tryd.E_x38 : Tryd.E.x 38 = .go := rfl
theorem Tryd.E_x39 : Tryd.E.x 39 = .sub64 := rfl
theorem Tryd.E_g0 {t : List AV} : evA Tryd.E t (.global 0) = .vp [.w64 4 [18446744073709551597, 18446744073709551615, 18446744073709551615, 9223372036854775807]] 0 := rfl
-- Tryd.ti2 Tryd.E_ty2 Tryd.ti3 Tryd.E_ty3 Tryd.ti4 Tryd.E_ty4 Tryd.ti5 Tryd.E_ty5
-- Tryd.ti6 Tryd.E_ty6 Tryd.ti7 Tryd.E_ty7 Tryd.ti8 Tryd.E_ty8 Tryd.ti9 Tryd.E_ty9
-- Tryd.ti10 Tryd.E_ty10 Tryd.ti11 Tryd.E_ty11 Tryd.ti12 Tryd.E_ty12 Tryd.ti13 Tryd.E_ty13
-- Tryd.ti14 Tryd.E_ty14 Tryd.ti15 Tryd.E_ty15 Tryd.ti16 Tryd.E_ty16 Tryd.ti17 Tryd.E_ty17
-- Tryd.ti18 Tryd.E_ty18 Tryd.ti19 Tryd.E_ty19 Tryd.ti21 Tryd.E_ty21 Tryd.ti22 Tryd.E_ty22
-- Tryd.ti23 Tryd.E_ty23 Tryd.ti24 Tryd.E_ty24 Tryd.ti25 Tryd.E_ty25 Tryd.ti27 Tryd.E_ty27
-- Tryd.ti38 Tryd.E_ty38 Tryd.ti43 Tryd.E_ty43 Tryd.ti44 Tryd.E_ty44 Tryd.ti45 Tryd.E_ty45
-- Tryd.ti51 Tryd.E_ty51 Tryd.ti52 Tryd.E_ty52 Tryd.ti53 Tryd.E_ty53 Tryd.ti61 Tryd.E_ty61
-- Tryd.ti63 Tryd.E_ty63 Tryd.ti65 Tryd.E_ty65 Tryd.ti66 Tryd.E_ty66 Tryd.ti67 Tryd.E_ty67
-- Tryd.ti68 Tryd.E_ty68 Tryd.ti69 Tryd.E_ty69 Tryd.ti71 Tryd.E_ty71 Tryd.ti72 Tryd.E_ty72
-- Tryd.ti73 Tryd.E_ty73 Tryd.ti75 Tryd.E_ty75 Tryd.ti76 Tryd.E_ty76 Tryd.ti77 Tryd.E_ty77
-- Tryd.ti78 Tryd.E_ty78 Tryd.ti79 Tryd.E_ty79 Tryd.E_go3 Tryd.E_go4 Tryd.E_go5 Tryd.E_go6
-- Tryd.E_go7 Tryd.E_go8 Tryd.E_go9 Tryd.E_go10 Tryd.E_go11 Tryd.E_go12 Tryd.E_go13 Tryd.E_go14
-- Tryd.E_go15 Tryd.E_go16 Tryd.E_go17 Tryd.E_go18 Tryd.E_go19 Tryd.E_go20 Tryd.E_go21 Tryd.E_go22
-- Tryd.E_go23 Tryd.E_go24 Tryd.E_go25 Tryd.E_go26 Tryd.E_go27 Tryd.E_go28 Tryd.E_go29 Tryd.E_go30
-- Tryd.E_go31 Tryd.E_go32 Tryd.E_go34 Tryd.E_go35 Tryd.E_go36 Tryd.E_go37 Tryd.E_go38 Tryd.E_x3
-- Tryd.E_x4 Tryd.E_x5 Tryd.E_x6 Tryd.E_x7 Tryd.E_x8 Tryd.E_x9 Tryd.E_x10 Tryd.E_x11
-- Tryd.E_x12 Tryd.E_x13 Tryd.E_x14 Tryd.E_x15 Tryd.E_x16 Tryd.E_x17 Tryd.E_x18 Tryd.E_x19
-- Tryd.E_x20 Tryd.E_x21 Tryd.E_x22 Tryd.E_x23 Tryd.E_x24 Tryd.E_x25 Tryd.E_x26 Tryd.E_x27
-- Tryd.E_x28 Tryd.E_x29 Tryd.E_x30 Tryd.E_x31 Tryd.E_x32 Tryd.E_x33 Tryd.E_x34 Tryd.E_x35
-- Tryd.E_x36 Tryd.E_x37 Tryd.E_x38 Tryd.E_x39 Tryd.E_g0
end Go.Proofs
