/- This seat's translation as the abstract layer knows it (wip tools env.py): types, functions, package-level variables. -/
import Derived.Test.YtfpladpbnbpehaaProg
import Derived.Test.YtfpladpbnbpehaaZzad
import Derived.KernelRfl

set_option linter.unusedSimpArgs false
set_option linter.unusedVariables false
namespace Go.Proofs
open Go Go.V

def Try.ti2 : TI := ⟨1, 8, .int .i64, some (.int .i64 0), false, false⟩
def Try.ti3 : TI := ⟨1, 8, .int .i64, some (.int .i64 0), false, false⟩
def Try.ti4 : TI := ⟨1, 1, .bool, some (.bool false), false, false⟩
def Try.ti5 : TI := ⟨1, 1, .int .u8, some (.u8 0), false, false⟩
def Try.ti6 : TI := ⟨1, 1, .int .u8, some (.u8 0), false, false⟩
def Try.ti7 : TI := ⟨4, 24, .str [(0, 2), (1, 3), (2, 4), (3, 6)], some (.agg [.int .i64 0, .int .i64 0, .bool false, .u8 0]), false, false⟩
def Try.ti8 : TI := ⟨4, 24, .str [(0, 2), (1, 3), (2, 4), (3, 6)], some (.agg [.int .i64 0, .int .i64 0, .bool false, .u8 0]), false, false⟩
def Try.ti9 : TI := ⟨1, 16, .string, some (.str []), false, false⟩
def Try.ti10 : TI := ⟨1, 16, .string, some (.str []), false, false⟩
def Try.ti11 : TI := ⟨1, 16, .string, some (.str []), false, false⟩
def Try.ti12 : TI := ⟨1, 8, .int .u64, some (.u64 0), false, false⟩
def Try.ti13 : TI := ⟨2, 24, .str [(0, 9), (1, 12)], some (.agg [.str [], .u64 0]), false, false⟩
def Try.ti14 : TI := ⟨2, 24, .str [(0, 9), (1, 12)], some (.agg [.str [], .u64 0]), false, false⟩
def Try.ti15 : TI := ⟨1, 8, .ptr 73, some (.raw (.pointer none)), false, false⟩
def Try.ti16 : TI := ⟨1, 8, .ptr 76, some (.raw (.pointer none)), false, false⟩
def Try.ti17 : TI := ⟨1, 8, .ptr 85, some (.raw (.pointer none)), false, false⟩
def Try.ti18 : TI := ⟨1, 8, .str [(0, 17)], some (.agg [.raw (.pointer none)]), false, false⟩
def Try.ti19 : TI := ⟨1, 8, .str [(0, 17)], some (.agg [.raw (.pointer none)]), false, false⟩
def Try.ti21 : TI := ⟨1, 4, .int .i32, some (.int .i32 0), false, false⟩
def Try.ti22 : TI := ⟨1, 24, .slice 60, some (.vec true 4 []), false, false⟩
def Try.ti23 : TI := ⟨1, 24, .slice 27, some (.vec true 3 []), false, false⟩
def Try.ti25 : TI := ⟨1, 24, .slice 5, some (.vec8 true []), false, false⟩
def Try.ti26 : TI := ⟨3, 40, .str [(0, 3), (1, 3), (2, 25)], some (.agg [.int .i64 0, .int .i64 0, .vec8 true []]), false, false⟩
def Try.ti27 : TI := ⟨3, 40, .str [(0, 3), (1, 3), (2, 25)], some (.agg [.int .i64 0, .int .i64 0, .vec8 true []]), false, false⟩
def Try.ti28 : TI := ⟨1, 8, .int .i64, some (.int .i64 0), false, false⟩
def Try.ti39 : TI := ⟨1, 24, .slice 47, some (.vec true 34 []), false, false⟩
def Try.ti43 : TI := ⟨32, 32, .arr 32 5, some (.b8 32 [0, 0, 0, 0, 0, 0, 0, 0, 0, 0, 0, 0, 0, 0, 0, 0, 0, 0, 0, 0, 0, 0, 0, 0, 0, 0, 0, 0, 0, 0, 0, 0]), true, false⟩
def Try.ti44 : TI := ⟨32, 32, .arr 32 5, some (.b8 32 [0, 0, 0, 0, 0, 0, 0, 0, 0, 0, 0, 0, 0, 0, 0, 0, 0, 0, 0, 0, 0, 0, 0, 0, 0, 0, 0, 0, 0, 0, 0, 0]), true, false⟩
def Try.ti46 : TI := ⟨34, 56, .str [(0, 9), (1, 44), (33, 4)], some (.agg [.str [], .b8 32 [0, 0, 0, 0, 0, 0, 0, 0, 0, 0, 0, 0, 0, 0, 0, 0, 0, 0, 0, 0, 0, 0, 0, 0, 0, 0, 0, 0, 0, 0, 0, 0], .bool false]), true, true⟩
def Try.ti47 : TI := ⟨34, 56, .str [(0, 9), (1, 44), (33, 4)], some (.agg [.str [], .b8 32 [0, 0, 0, 0, 0, 0, 0, 0, 0, 0, 0, 0, 0, 0, 0, 0, 0, 0, 0, 0, 0, 0, 0, 0, 0, 0, 0, 0, 0, 0, 0, 0], .bool false]), true, true⟩
def Try.ti59 : TI := ⟨4, 40, .str [(0, 3), (1, 3), (2, 3), (3, 9)], some (.agg [.int .i64 0, .int .i64 0, .int .i64 0, .str []]), true, true⟩
def Try.ti60 : TI := ⟨4, 40, .str [(0, 3), (1, 3), (2, 3), (3, 9)], some (.agg [.int .i64 0, .int .i64 0, .int .i64 0, .str []]), true, true⟩
def Try.ti62 : TI := ⟨1, 8, .int .u64, some (.u64 0), false, false⟩
def Try.ti63 : TI := ⟨1, 4, .int .u32, some (.u32 0), false, false⟩
def Try.ti72 : TI := ⟨4, 40, .str [(0, 17), (1, 17), (2, 17), (3, 9)], some (.agg [.raw (.pointer none), .raw (.pointer none), .raw (.pointer none), .str []]), false, false⟩
def Try.ti73 : TI := ⟨4, 40, .str [(0, 17), (1, 17), (2, 17), (3, 9)], some (.agg [.raw (.pointer none), .raw (.pointer none), .raw (.pointer none), .str []]), false, false⟩
def Try.ti74 : TI := ⟨0, 0, .arr 0 16, some (.agg []), false, false⟩
def Try.ti75 : TI := ⟨0, 0, .str [(0, 74)], some (.agg []), false, false⟩
def Try.ti76 : TI := ⟨0, 0, .str [(0, 74)], some (.agg []), false, false⟩
def Try.ti78 : TI := ⟨1, 1, .int .u8, some (.u8 0), false, false⟩
def Try.ti79 : TI := ⟨1, 1, .int .u8, some (.u8 0), false, false⟩
def Try.ti81 : TI := ⟨1, 8, .ptr 5, some (.raw (.pointer none)), false, false⟩
def Try.ti82 : TI := ⟨1, 4, .int .i32, some (.int .i32 0), false, false⟩
def Try.ti83 : TI := ⟨1, 4, .int .i32, some (.int .i32 0), false, false⟩
def Try.ti84 : TI := ⟨11, 48, .str [(0, 12), (1, 12), (2, 63), (3, 78), (4, 5), (5, 5), (6, 79), (7, 80), (8, 81), (9, 82), (10, 83)], some (.agg [.u64 0, .u64 0, .u32 0, .u8 0, .u8 0, .u8 0, .u8 0, .raw .nilFunc, .raw (.pointer none), .int .i32 0, .int .i32 0]), false, false⟩
def Try.ti85 : TI := ⟨11, 48, .str [(0, 12), (1, 12), (2, 63), (3, 78), (4, 5), (5, 5), (6, 79), (7, 80), (8, 81), (9, 82), (10, 83)], some (.agg [.u64 0, .u64 0, .u32 0, .u8 0, .u8 0, .u8 0, .u8 0, .raw .nilFunc, .raw (.pointer none), .int .i32 0, .int .i32 0]), false, false⟩
def Try.tis : List (Option TI) := [none, none, some Try.ti2, some Try.ti3, some Try.ti4, some Try.ti5, some Try.ti6, some Try.ti7, some Try.ti8, some Try.ti9, some Try.ti10, some Try.ti11, some Try.ti12, some Try.ti13, some Try.ti14, some Try.ti15, some Try.ti16, some Try.ti17, some Try.ti18, some Try.ti19, none, some Try.ti21, some Try.ti22, some Try.ti23, none, some Try.ti25, some Try.ti26, some Try.ti27, some Try.ti28, none, none, none, none, none, none, none, none, none, none, some Try.ti39, none, none, none, some Try.ti43, some Try.ti44, none, some Try.ti46, some Try.ti47, none, none, none, none, none, none, none, none, none, none, none, some Try.ti59, some Try.ti60, none, some Try.ti62, some Try.ti63, none, none, none, none, none, none, none, none, some Try.ti72, some Try.ti73, some Try.ti74, some Try.ti75, some Try.ti76, none, some Try.ti78, some Try.ti79, none, some Try.ti81, some Try.ti82, some Try.ti83, some Try.ti84, some Try.ti85, none]
theorem Try.tisOk : ((List.range Try.tis.length).all fun t => match Try.tis[t]? with | some (some i) => tiOkB Try.prog t i | _ => true) = true := by kernel_rfl
def Try.gos : List Nat := [3, 4, 5, 6, 7, 8, 9, 10, 11, 12, 13, 14, 15, 16, 17, 18, 19, 20, 21, 22, 23, 24, 25, 26, 27, 28, 29, 30, 31, 32, 33, 34, 35, 36]
theorem Try.gosOk : Try.gos.all (goFnB Try.prog) = true := by kernel_rfl
def Try.xk (f : Nat) : FK := FK.go
theorem Try.addOk : ∀ f, Try.xk f = .add64 → IsExt Try.prog f add64Entry := by
  intro f h
  have : Try.xk f = .go := by
    unfold Try.xk
    rfl
  rw [this] at h; exact absurd h (by decide)
theorem Try.subOk : ∀ f, Try.xk f = .sub64 → IsExt Try.prog f sub64Entry := by
  intro f h
  have : Try.xk f = .go := by
    unfold Try.xk
    rfl
  rw [this] at h; exact absurd h (by decide)
def Try.gl (g : Nat) : Option (List AV) := none
def Try.E : Env Try.prog where
  ty := fun t => (Try.tis[t]?).join
  g := Try.gl
  x := Try.xk
  go := fun f => Try.gos.contains f
  tyOk := tyOk_of Try.tisOk
  addOk := Try.addOk
  subOk := Try.subOk
  goOk := fun f h => goFn_of (List.all_eq_true.1 Try.gosOk f (by simpa using h))
  follows := by kernel_rfl
theorem Try.E_ty2 : Try.E.ty 2 = some ⟨1, 8, .int .i64, some (.int .i64 0), false, false⟩ := rfl
theorem Try.E_ty3 : Try.E.ty 3 = some ⟨1, 8, .int .i64, some (.int .i64 0), false, false⟩ := rfl
theorem Try.E_ty4 : Try.E.ty 4 = some ⟨1, 1, .bool, some (.bool false), false, false⟩ := rfl
theorem Try.E_ty5 : Try.E.ty 5 = some ⟨1, 1, .int .u8, some (.u8 0), false, false⟩ := rfl
theorem Try.E_ty6 : Try.E.ty 6 = some ⟨1, 1, .int .u8, some (.u8 0), false, false⟩ := rfl
theorem Try.E_ty7 : Try.E.ty 7 = some ⟨4, 24, .str [(0, 2), (1, 3), (2, 4), (3, 6)], some (.agg [.int .i64 0, .int .i64 0, .bool false, .u8 0]), false, false⟩ := rfl
theorem Try.E_ty8 : Try.E.ty 8 = some ⟨4, 24, .str [(0, 2), (1, 3), (2, 4), (3, 6)], some (.agg [.int .i64 0, .int .i64 0, .bool false, .u8 0]), false, false⟩ := rfl
theorem Try.E_ty9 : Try.E.ty 9 = some ⟨1, 16, .string, some (.str []), false, false⟩ := rfl
theorem Try.E_ty10 : Try.E.ty 10 = some ⟨1, 16, .string, some (.str []), false, false⟩ := rfl
theorem Try.E_ty11 : Try.E.ty 11 = some ⟨1, 16, .string, some (.str []), false, false⟩ := rfl
theorem Try.E_ty12 : Try.E.ty 12 = some ⟨1, 8, .int .u64, some (.u64 0), false, false⟩ := rfl
theorem Try.E_ty13 : Try.E.ty 13 = some ⟨2, 24, .str [(0, 9), (1, 12)], some (.agg [.str [], .u64 0]), false, false⟩ := rfl
theorem Try.E_ty14 : Try.E.ty 14 = some ⟨2, 24, .str [(0, 9), (1, 12)], some (.agg [.str [], .u64 0]), false, false⟩ := rfl
theorem Try.E_ty15 : Try.E.ty 15 = some ⟨1, 8, .ptr 73, some (.raw (.pointer none)), false, false⟩ := rfl
theorem Try.E_ty16 : Try.E.ty 16 = some ⟨1, 8, .ptr 76, some (.raw (.pointer none)), false, false⟩ := rfl
theorem Try.E_ty17 : Try.E.ty 17 = some ⟨1, 8, .ptr 85, some (.raw (.pointer none)), false, false⟩ := rfl
theorem Try.E_ty18 : Try.E.ty 18 = some ⟨1, 8, .str [(0, 17)], some (.agg [.raw (.pointer none)]), false, false⟩ := rfl
theorem Try.E_ty19 : Try.E.ty 19 = some ⟨1, 8, .str [(0, 17)], some (.agg [.raw (.pointer none)]), false, false⟩ := rfl
theorem Try.E_ty21 : Try.E.ty 21 = some ⟨1, 4, .int .i32, some (.int .i32 0), false, false⟩ := rfl
theorem Try.E_ty22 : Try.E.ty 22 = some ⟨1, 24, .slice 60, some (.vec true 4 []), false, false⟩ := rfl
theorem Try.E_ty23 : Try.E.ty 23 = some ⟨1, 24, .slice 27, some (.vec true 3 []), false, false⟩ := rfl
theorem Try.E_ty25 : Try.E.ty 25 = some ⟨1, 24, .slice 5, some (.vec8 true []), false, false⟩ := rfl
theorem Try.E_ty26 : Try.E.ty 26 = some ⟨3, 40, .str [(0, 3), (1, 3), (2, 25)], some (.agg [.int .i64 0, .int .i64 0, .vec8 true []]), false, false⟩ := rfl
theorem Try.E_ty27 : Try.E.ty 27 = some ⟨3, 40, .str [(0, 3), (1, 3), (2, 25)], some (.agg [.int .i64 0, .int .i64 0, .vec8 true []]), false, false⟩ := rfl
theorem Try.E_ty28 : Try.E.ty 28 = some ⟨1, 8, .int .i64, some (.int .i64 0), false, false⟩ := rfl
theorem Try.E_ty39 : Try.E.ty 39 = some ⟨1, 24, .slice 47, some (.vec true 34 []), false, false⟩ := rfl
theorem Try.E_ty43 : Try.E.ty 43 = some ⟨32, 32, .arr 32 5, some (.b8 32 [0, 0, 0, 0, 0, 0, 0, 0, 0, 0, 0, 0, 0, 0, 0, 0, 0, 0, 0, 0, 0, 0, 0, 0, 0, 0, 0, 0, 0, 0, 0, 0]), true, false⟩ := rfl
theorem Try.E_ty44 : Try.E.ty 44 = some ⟨32, 32, .arr 32 5, some (.b8 32 [0, 0, 0, 0, 0, 0, 0, 0, 0, 0, 0, 0, 0, 0, 0, 0, 0, 0, 0, 0, 0, 0, 0, 0, 0, 0, 0, 0, 0, 0, 0, 0]), true, false⟩ := rfl
theorem Try.E_ty46 : Try.E.ty 46 = some ⟨34, 56, .str [(0, 9), (1, 44), (33, 4)], some (.agg [.str [], .b8 32 [0, 0, 0, 0, 0, 0, 0, 0, 0, 0, 0, 0, 0, 0, 0, 0, 0, 0, 0, 0, 0, 0, 0, 0, 0, 0, 0, 0, 0, 0, 0, 0], .bool false]), true, true⟩ := rfl
theorem Try.E_ty47 : Try.E.ty 47 = some ⟨34, 56, .str [(0, 9), (1, 44), (33, 4)], some (.agg [.str [], .b8 32 [0, 0, 0, 0, 0, 0, 0, 0, 0, 0, 0, 0, 0, 0, 0, 0, 0, 0, 0, 0, 0, 0, 0, 0, 0, 0, 0, 0, 0, 0, 0, 0], .bool false]), true, true⟩ := rfl
theorem Try.E_ty59 : Try.E.ty 59 = some ⟨4, 40, .str [(0, 3), (1, 3), (2, 3), (3, 9)], some (.agg [.int .i64 0, .int .i64 0, .int .i64 0, .str []]), true, true⟩ := rfl
theorem Try.E_ty60 : Try.E.ty 60 = some ⟨4, 40, .str [(0, 3), (1, 3), (2, 3), (3, 9)], some (.agg [.int .i64 0, .int .i64 0, .int .i64 0, .str []]), true, true⟩ := rfl
theorem Try.E_ty62 : Try.E.ty 62 = some ⟨1, 8, .int .u64, some (.u64 0), false, false⟩ := rfl
theorem Try.E_ty63 : Try.E.ty 63 = some ⟨1, 4, .int .u32, some (.u32 0), false, false⟩ := rfl
theorem Try.E_ty72 : Try.E.ty 72 = some ⟨4, 40, .str [(0, 17), (1, 17), (2, 17), (3, 9)], some (.agg [.raw (.pointer none), .raw (.pointer none), .raw (.pointer none), .str []]), false, false⟩ := rfl
theorem Try.E_ty73 : Try.E.ty 73 = some ⟨4, 40, .str [(0, 17), (1, 17), (2, 17), (3, 9)], some (.agg [.raw (.pointer none), .raw (.pointer none), .raw (.pointer none), .str []]), false, false⟩ := rfl
theorem Try.E_ty74 : Try.E.ty 74 = some ⟨0, 0, .arr 0 16, some (.agg []), false, false⟩ := rfl
theorem Try.E_ty75 : Try.E.ty 75 = some ⟨0, 0, .str [(0, 74)], some (.agg []), false, false⟩ := rfl
theorem Try.E_ty76 : Try.E.ty 76 = some ⟨0, 0, .str [(0, 74)], some (.agg []), false, false⟩ := rfl
theorem Try.E_ty78 : Try.E.ty 78 = some ⟨1, 1, .int .u8, some (.u8 0), false, false⟩ := rfl
theorem Try.E_ty79 : Try.E.ty 79 = some ⟨1, 1, .int .u8, some (.u8 0), false, false⟩ := rfl
theorem Try.E_ty81 : Try.E.ty 81 = some ⟨1, 8, .ptr 5, some (.raw (.pointer none)), false, false⟩ := rfl
theorem Try.E_ty82 : Try.E.ty 82 = some ⟨1, 4, .int .i32, some (.int .i32 0), false, false⟩ := rfl
theorem Try.E_ty83 : Try.E.ty 83 = some ⟨1, 4, .int .i32, some (.int .i32 0), false, false⟩ := rfl
theorem Try.E_ty84 : Try.E.ty 84 = some ⟨11, 48, .str [(0, 12), (1, 12), (2, 63), (3, 78), (4, 5), (5, 5), (6, 79), (7, 80), (8, 81), (9, 82), (10, 83)], some (.agg [.u64 0, .u64 0, .u32 0, .u8 0, .u8 0, .u8 0, .u8 0, .raw .nilFunc, .raw (.pointer none), .int .i32 0, .int .i32 0]), false, false⟩ := rfl
theorem Try.E_ty85 : Try.E.ty 85 = some ⟨11, 48, .str [(0, 12), (1, 12), (2, 63), (3, 78), (4, 5), (5, 5), (6, 79), (7, 80), (8, 81), (9, 82), (10, 83)], some (.agg [.u64 0, .u64 0, .u32 0, .u8 0, .u8 0, .u8 0, .u8 0, .raw .nilFunc, .raw (.pointer none), .int .i32 0, .int .i32 0]), false, false⟩ := rfl
theorem Try.E_go3 : Try.E.go 3 = true := rfl
theorem Try.E_go4 : Try.E.go 4 = true := rfl
theorem Try.E_go5 : Try.E.go 5 = true := rfl
theorem Try.E_go6 : Try.E.go 6 = true := rfl
theorem Try.E_go7 : Try.E.go 7 = true := rfl
theorem Try.E_go8 : Try.E.go 8 = true := rfl
theorem Try.E_go9 : Try.E.go 9 = true := rfl
theorem Try.E_go10 : Try.E.go 10 = true := rfl
theorem Try.E_go11 : Try.E.go 11 = true := rfl
theorem Try.E_go12 : Try.E.go 12 = true := rfl
theorem Try.E_go13 : Try.E.go 13 = true := rfl
theorem Try.E_go14 : Try.E.go 14 = true := rfl
theorem Try.E_go15 : Try.E.go 15 = true := rfl
theorem Try.E_go16 : Try.E.go 16 = true := rfl
theorem Try.E_go17 : Try.E.go 17 = true := rfl
theorem Try.E_go18 : Try.E.go 18 = true := rfl
theorem Try.E_go19 : Try.E.go 19 = true := rfl
theorem Try.E_go20 : Try.E.go 20 = true := rfl
theorem Try.E_go21 : Try.E.go 21 = true := rfl
theorem Try.E_go22 : Try.E.go 22 = true := rfl
theorem Try.E_go23 : Try.E.go 23 = true := rfl
theorem Try.E_go24 : Try.E.go 24 = true := rfl
theorem Try.E_go25 : Try.E.go 25 = true := rfl
theorem Try.E_go26 : Try.E.go 26 = true := rfl
theorem Try.E_go27 : Try.E.go 27 = true := rfl
theorem Try.E_go28 : Try.E.go 28 = true := rfl
theorem Try.E_go29 : Try.E.go 29 = true := rfl
theorem Try.E_go30 : Try.E.go 30 = true := rfl
theorem Try.E_go31 : Try.E.go 31 = true := rfl
theorem Try.E_go32 : Try.E.go 32 = true := rfl
theorem Try.E_go33 : Try.E.go 33 = true := rfl
theorem Try.E_go34 : Try.E.go 34 = true := rfl
theorem Try.E_go35 : Try.E.go 35 = true := rfl
theorem Try.E_go36 : Try.E.go 36 = true := rfl
theorem Try.E_x3 : Try.E.x 3 = .go := rfl
theorem Try.E_x4 : Try.E.x 4 = .go := rfl
theorem Try.E_x5 : Try.E.x 5 = .go := rfl
theorem Try.E_x6 : Try.E.x 6 = .go := rfl
theorem Try.E_x7 : Try.E.x 7 = .go := rfl
theorem Try.E_x8 : Try.E.x 8 = .go := rfl
theorem Try.E_x9 : Try.E.x 9 = .go := rfl
theorem Try.E_x10 : Try.E.x 10 = .go := rfl
theorem Try.E_x11 : Try.E.x 11 = .go := rfl
theorem Try.E_x12 : Try.E.x 12 = .go := rfl
theorem Try.E_x13 : Try.E.x 13 = .go := rfl
theorem Try.E_x14 : Try.E.x 14 = .go := rfl
theorem Try.E_x15 : Try.E.x 15 = .go := rfl
theorem Try.E_x16 : Try.E.x 16 = .go := rfl
theorem Try.E_x17 : Try.E.x 17 = .go := rfl
theorem Try.E_x18 : Try.E.x 18 = .go := rfl
theorem Try.E_x19 : Try.E.x 19 = .go := rfl
theorem Try.E_x20 : Try.E.x 20 = .go := rfl
theorem Try.E_x21 : Try.E.x 21 = .go := rfl
theorem Try.E_x22 : Try.E.x 22 = .go := rfl
theorem Try.E_x23 : Try.E.x 23 = .go := rfl
theorem Try.E_x24 : Try.E.x 24 = .go := rfl
theorem Try.E_x25 : Try.E.x 25 = .go := rfl
theorem Try.E_x26 : Try.E.x 26 = .go := rfl
theorem Try.E_x27 : Try.E.x 27 = .go := rfl
theorem Try.E_x28 : Try.E.x 28 = .go := rfl
theorem Try.E_x29 : Try.E.x 29 = .go := rfl
theorem Try.E_x30 : Try.E.x 30 = .go := rfl
theorem Try.E_x31 : Try.E.x 31 = .go := rfl
theorem Try.E_x32 : Try.E.x 32 = .go := rfl
theorem Try.E_x33 : Try.E.x 33 = .go := rfl
theorem Try.E_x34 : Try.E.x 34 = .go := rfl
theorem Try.E_x35 : Try.E.x 35 = .go := rfl
theorem Try.E_x36 : Try.E.x 36 = .go := rfl
-- Try.ti2 Try.E_ty2 Try.ti3 Try.E_ty3 Try.ti4 Try.E_ty4 Try.ti5 Try.E_ty5
-- Try.ti6 Try.E_ty6 Try.ti7 Try.E_ty7 Try.ti8 Try.E_ty8 Try.ti9 Try.E_ty9
-- Try.ti10 Try.E_ty10 Try.ti11 Try.E_ty11 Try.ti12 Try.E_ty12 Try.ti13 Try.E_ty13
-- Try.ti14 Try.E_ty14 Try.ti15 Try.E_ty15 Try.ti16 Try.E_ty16 Try.ti17 Try.E_ty17
-- Try.ti18 Try.E_ty18 Try.ti19 Try.E_ty19 Try.ti21 Try.E_ty21 Try.ti22 Try.E_ty22
-- Try.ti23 Try.E_ty23 Try.ti25 Try.E_ty25 Try.ti26 Try.E_ty26 Try.ti27 Try.E_ty27
-- Try.ti28 Try.E_ty28 Try.ti39 Try.E_ty39 Try.ti43 Try.E_ty43 Try.ti44 Try.E_ty44
-- Try.ti46 Try.E_ty46 Try.ti47 Try.E_ty47 Try.ti59 Try.E_ty59 Try.ti60 Try.E_ty60
-- Try.ti62 Try.E_ty62 Try.ti63 Try.E_ty63 Try.ti72 Try.E_ty72 Try.ti73 Try.E_ty73
-- Try.ti74 Try.E_ty74 Try.ti75 Try.E_ty75 Try.ti76 Try.E_ty76 Try.ti78 Try.E_ty78
-- Try.ti79 Try.E_ty79 Try.ti81 Try.E_ty81 Try.ti82 Try.E_ty82 Try.ti83 Try.E_ty83
-- Try.ti84 Try.E_ty84 Try.ti85 Try.E_ty85 Try.E_go3 Try.E_go4 Try.E_go5 Try.E_go6
-- Try.E_go7 Try.E_go8 Try.E_go9 Try.E_go10 Try.E_go11 Try.E_go12 Try.E_go13 Try.E_go14
-- Try.E_go15 Try.E_go16 Try.E_go17 Try.E_go18 Try.E_go19 Try.E_go20 Try.E_go21 Try.E_go22
-- Try.E_go23 Try.E_go24 Try.E_go25 Try.E_go26 Try.E_go27 Try.E_go28 Try.E_go29 Try.E_go30
-- Try.E_go31 Try.E_go32 Try.E_go33 Try.E_go34 Try.E_go35 Try.E_go36 Try.E_x3 Try.E_x4
-- Try.E_x5 Try.E_x6 Try.E_x7 Try.E_x8 Try.E_x9 Try.E_x10 Try.E_x11 Try.E_x12
-- Try.E_x13 Try.E_x14 Try.E_x15 Try.E_x16 Try.E_x17 Try.E_x18 Try.E_x19 Try.E_x20
-- Try.E_x21 Try.E_x22 Try.E_x23 Try.E_x24 Try.E_x25 Try.E_x26 Try.E_x27 Try.E_x28
-- Try.E_x29 Try.E_x30 Try.E_x31 Try.E_x32 Try.E_x33 Try.E_x34 Try.E_x35 Try.E_x36
end Go.Proofs
