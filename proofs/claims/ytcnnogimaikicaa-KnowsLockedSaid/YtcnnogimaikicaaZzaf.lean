/- This seat's translation as the abstract layer knows it (wip tools env.py): types, functions, package-level variables. -/
import Derived.Test.YtcnnogimaikicaaProg
import Derived.Test.YtcnnogimaikicaaZzae
import Derived.KernelRfl

set_option linter.unusedSimpArgs false
set_option linter.unusedVariables false
namespace Go.Proofs
open Go Go.V

def Try.ti1 : TI := ⟨1, 8, .other, some (.raw .nilFunc), false, false⟩
def Try.ti2 : TI := ⟨1, 8, .int .i64, some (.int .i64 0), false, false⟩
def Try.ti3 : TI := ⟨1, 8, .int .i64, some (.int .i64 0), false, false⟩
def Try.ti4 : TI := ⟨1, 1, .bool, some (.bool false), false, false⟩
def Try.ti5 : TI := ⟨1, 1, .int .u8, some (.u8 0), false, false⟩
def Try.ti6 : TI := ⟨1, 1, .int .u8, some (.u8 0), false, false⟩
def Try.ti7 : TI := ⟨4, 24, .str [(0, 2), (1, 3), (2, 4), (3, 6)], some (.agg [.int .i64 0, .int .i64 0, .bool false, .u8 0]), false, false⟩
def Try.ti8 : TI := ⟨4, 24, .str [(0, 2), (1, 3), (2, 4), (3, 6)], some (.agg [.int .i64 0, .int .i64 0, .bool false, .u8 0]), false, false⟩
def Try.ti9 : TI := ⟨1, 16, .string, some (.str []), false, false⟩
def Try.ti10 : TI := ⟨1, 16, .string, some (.str []), false, false⟩
def Try.ti11 : TI := ⟨1, 16, .string, some (.str []), false, false⟩
def Try.ti12 : TI := ⟨1, 8, .int .u64, some (.u64 0), false, false⟩
def Try.ti13 : TI := ⟨2, 24, .str [(0, 9), (1, 12)], some (.agg [.str [], .u64 0]), false, false⟩
def Try.ti14 : TI := ⟨2, 24, .str [(0, 9), (1, 12)], some (.agg [.str [], .u64 0]), false, false⟩
def Try.ti15 : TI := ⟨1, 8, .ptr 55, some (.raw (.pointer none)), false, false⟩
def Try.ti16 : TI := ⟨1, 8, .ptr 58, some (.raw (.pointer none)), false, false⟩
def Try.ti17 : TI := ⟨1, 8, .ptr 68, some (.raw (.pointer none)), false, false⟩
def Try.ti18 : TI := ⟨1, 8, .str [(0, 17)], some (.agg [.raw (.pointer none)]), false, false⟩
def Try.ti19 : TI := ⟨1, 8, .str [(0, 17)], some (.agg [.raw (.pointer none)]), false, false⟩
def Try.ti21 : TI := ⟨1, 4, .int .i32, some (.int .i32 0), false, false⟩
def Try.ti22 : TI := ⟨1, 24, .slice 42, some (.vec true 4 []), false, false⟩
def Try.ti23 : TI := ⟨1, 24, .slice 26, some (.vec true 4 []), false, false⟩
def Try.ti24 : TI := ⟨1, 8, .other, some (.raw .nilFunc), false, false⟩
def Try.ti25 : TI := ⟨4, 48, .str [(0, 3), (1, 3), (2, 3), (3, 23)], some (.agg [.int .i64 0, .int .i64 0, .int .i64 0, .vec true 4 []]), false, false⟩
def Try.ti26 : TI := ⟨4, 48, .str [(0, 3), (1, 3), (2, 3), (3, 23)], some (.agg [.int .i64 0, .int .i64 0, .int .i64 0, .vec true 4 []]), false, false⟩
def Try.ti28 : TI := ⟨1, 8, .other, some (.raw .nilFunc), false, false⟩
def Try.ti29 : TI := ⟨1, 8, .other, some (.raw .nilFunc), false, false⟩
def Try.ti30 : TI := ⟨1, 8, .int .i64, some (.int .i64 0), false, false⟩
def Try.ti32 : TI := ⟨1, 8, .other, some (.raw .nilFunc), false, false⟩
def Try.ti33 : TI := ⟨1, 8, .other, some (.raw .nilFunc), false, false⟩
def Try.ti34 : TI := ⟨1, 8, .other, some (.raw .nilFunc), false, false⟩
def Try.ti35 : TI := ⟨1, 8, .other, some (.raw .nilFunc), false, false⟩
def Try.ti36 : TI := ⟨1, 8, .other, some (.raw .nilFunc), false, false⟩
def Try.ti37 : TI := ⟨1, 8, .other, some (.raw .nilFunc), false, false⟩
def Try.ti38 : TI := ⟨1, 8, .other, some (.raw .nilFunc), false, false⟩
def Try.ti39 : TI := ⟨1, 8, .other, some (.raw .nilFunc), false, false⟩
def Try.ti40 : TI := ⟨1, 8, .other, some (.raw .nilFunc), false, false⟩
def Try.ti41 : TI := ⟨4, 40, .str [(0, 3), (1, 3), (2, 3), (3, 9)], some (.agg [.int .i64 0, .int .i64 0, .int .i64 0, .str []]), true, true⟩
def Try.ti42 : TI := ⟨4, 40, .str [(0, 3), (1, 3), (2, 3), (3, 9)], some (.agg [.int .i64 0, .int .i64 0, .int .i64 0, .str []]), true, true⟩
def Try.ti43 : TI := ⟨1, 8, .other, some (.raw .nilFunc), false, false⟩
def Try.ti44 : TI := ⟨1, 8, .other, some (.raw .nilFunc), false, false⟩
def Try.ti45 : TI := ⟨1, 24, .slice 26, some (.vec true 4 []), false, false⟩
def Try.ti46 : TI := ⟨1, 8, .other, some (.raw .nilFunc), false, false⟩
def Try.ti47 : TI := ⟨1, 8, .other, some (.raw .nilFunc), false, false⟩
def Try.ti48 : TI := ⟨1, 8, .other, some (.raw .nilFunc), false, false⟩
def Try.ti49 : TI := ⟨1, 8, .other, some (.raw .nilFunc), false, false⟩
def Try.ti50 : TI := ⟨1, 8, .other, some (.raw .nilFunc), false, false⟩
def Try.ti51 : TI := ⟨1, 8, .other, some (.raw .nilFunc), false, false⟩
def Try.ti52 : TI := ⟨8, 64, .arr 8 3, some (.agg [.int .i64 0, .int .i64 0, .int .i64 0, .int .i64 0, .int .i64 0, .int .i64 0, .int .i64 0, .int .i64 0]), true, false⟩
def Try.ti53 : TI := ⟨1, 8, .other, some (.raw .nilFunc), false, false⟩
def Try.ti54 : TI := ⟨4, 40, .str [(0, 17), (1, 17), (2, 17), (3, 9)], some (.agg [.raw (.pointer none), .raw (.pointer none), .raw (.pointer none), .str []]), false, false⟩
def Try.ti55 : TI := ⟨4, 40, .str [(0, 17), (1, 17), (2, 17), (3, 9)], some (.agg [.raw (.pointer none), .raw (.pointer none), .raw (.pointer none), .str []]), false, false⟩
def Try.ti56 : TI := ⟨0, 0, .arr 0 16, some (.agg []), false, false⟩
def Try.ti57 : TI := ⟨0, 0, .str [(0, 56)], some (.agg []), false, false⟩
def Try.ti58 : TI := ⟨0, 0, .str [(0, 56)], some (.agg []), false, false⟩
def Try.ti59 : TI := ⟨1, 8, .other, some (.raw .nilFunc), false, false⟩
def Try.ti60 : TI := ⟨1, 4, .int .u32, some (.u32 0), false, false⟩
def Try.ti61 : TI := ⟨1, 1, .int .u8, some (.u8 0), false, false⟩
def Try.ti62 : TI := ⟨1, 1, .int .u8, some (.u8 0), false, false⟩
def Try.ti63 : TI := ⟨1, 8, .other, some (.raw .nilFunc), false, false⟩
def Try.ti64 : TI := ⟨1, 8, .ptr 5, some (.raw (.pointer none)), false, false⟩
def Try.ti65 : TI := ⟨1, 4, .int .i32, some (.int .i32 0), false, false⟩
def Try.ti66 : TI := ⟨1, 4, .int .i32, some (.int .i32 0), false, false⟩
def Try.ti67 : TI := ⟨11, 48, .str [(0, 12), (1, 12), (2, 60), (3, 61), (4, 5), (5, 5), (6, 62), (7, 63), (8, 64), (9, 65), (10, 66)], some (.agg [.u64 0, .u64 0, .u32 0, .u8 0, .u8 0, .u8 0, .u8 0, .raw .nilFunc, .raw (.pointer none), .int .i32 0, .int .i32 0]), false, false⟩
def Try.ti68 : TI := ⟨11, 48, .str [(0, 12), (1, 12), (2, 60), (3, 61), (4, 5), (5, 5), (6, 62), (7, 63), (8, 64), (9, 65), (10, 66)], some (.agg [.u64 0, .u64 0, .u32 0, .u8 0, .u8 0, .u8 0, .u8 0, .raw .nilFunc, .raw (.pointer none), .int .i32 0, .int .i32 0]), false, false⟩
def Try.tis : List (Option TI) := [none, some Try.ti1, some Try.ti2, some Try.ti3, some Try.ti4, some Try.ti5, some Try.ti6, some Try.ti7, some Try.ti8, some Try.ti9, some Try.ti10, some Try.ti11, some Try.ti12, some Try.ti13, some Try.ti14, some Try.ti15, some Try.ti16, some Try.ti17, some Try.ti18, some Try.ti19, none, some Try.ti21, some Try.ti22, some Try.ti23, some Try.ti24, some Try.ti25, some Try.ti26, none, some Try.ti28, some Try.ti29, some Try.ti30, none, some Try.ti32, some Try.ti33, some Try.ti34, some Try.ti35, some Try.ti36, some Try.ti37, some Try.ti38, some Try.ti39, some Try.ti40, some Try.ti41, some Try.ti42, some Try.ti43, some Try.ti44, some Try.ti45, some Try.ti46, some Try.ti47, some Try.ti48, some Try.ti49, some Try.ti50, some Try.ti51, some Try.ti52, some Try.ti53, some Try.ti54, some Try.ti55, some Try.ti56, some Try.ti57, some Try.ti58, some Try.ti59, some Try.ti60, some Try.ti61, some Try.ti62, some Try.ti63, some Try.ti64, some Try.ti65, some Try.ti66, some Try.ti67, some Try.ti68, none]
theorem Try.tisOk : ((List.range Try.tis.length).all fun t => match Try.tis[t]? with | some (some i) => tiOkB Try.prog t i | _ => true) = true := by kernel_rfl
def Try.gos : List Nat := [3, 4, 5, 6, 7, 8, 9, 10, 11, 12, 13, 14, 15, 16, 17, 18, 19, 20, 21, 22, 23, 24, 25, 26]
theorem Try.gosOk : Try.gos.all (goFnB Try.prog) = true := by kernel_rfl
def Try.xk (f : Nat) : FK := FK.go
theorem Try.addOk : ∀ f, Try.xk f = .add64 → IsExt Try.prog f add64Entry := by
  intro f h
  have : Try.xk f = .go := by
    unfold Try.xk
    rfl
  rw [this] at h; exact absurd h (by decide)
theorem Try.subOk : ∀ f, Try.xk f = .sub64 → IsExt Try.prog f sub64Entry := by
  intro f h
  have : Try.xk f = .go := by
    unfold Try.xk
    rfl
  rw [this] at h; exact absurd h (by decide)
def Try.gl (g : Nat) : Option (List AV) := none
def Try.E : Env Try.prog where
  ty := fun t => (Try.tis[t]?).join
  g := Try.gl
  x := Try.xk
  go := fun f => Try.gos.contains f
  tyOk := tyOk_of Try.tisOk
  addOk := Try.addOk
  subOk := Try.subOk
  goOk := fun f h => goFn_of (List.all_eq_true.1 Try.gosOk f (by simpa using h))
  follows := by kernel_rfl
theorem Try.E_ty1 : Try.E.ty 1 = some ⟨1, 8, .other, some (.raw .nilFunc), false, false⟩ := rfl
theorem Try.E_ty2 : Try.E.ty 2 = some ⟨1, 8, .int .i64, some (.int .i64 0), false, false⟩ := rfl
theorem Try.E_ty3 : Try.E.ty 3 = some ⟨1, 8, .int .i64, some (.int .i64 0), false, false⟩ := rfl
theorem Try.E_ty4 : Try.E.ty 4 = some ⟨1, 1, .bool, some (.bool false), false, false⟩ := rfl
theorem Try.E_ty5 : Try.E.ty 5 = some ⟨1, 1, .int .u8, some (.u8 0), false, false⟩ := rfl
theorem Try.E_ty6 : Try.E.ty 6 = some ⟨1, 1, .int .u8, some (.u8 0), false, false⟩ := rfl
theorem Try.E_ty7 : Try.E.ty 7 = some ⟨4, 24, .str [(0, 2), (1, 3), (2, 4), (3, 6)], some (.agg [.int .i64 0, .int .i64 0, .bool false, .u8 0]), false, false⟩ := rfl
theorem Try.E_ty8 : Try.E.ty 8 = some ⟨4, 24, .str [(0, 2), (1, 3), (2, 4), (3, 6)], some (.agg [.int .i64 0, .int .i64 0, .bool false, .u8 0]), false, false⟩ := rfl
theorem Try.E_ty9 : Try.E.ty 9 = some ⟨1, 16, .string, some (.str []), false, false⟩ := rfl
theorem Try.E_ty10 : Try.E.ty 10 = some ⟨1, 16, .string, some (.str []), false, false⟩ := rfl
theorem Try.E_ty11 : Try.E.ty 11 = some ⟨1, 16, .string, some (.str []), false, false⟩ := rfl
theorem Try.E_ty12 : Try.E.ty 12 = some ⟨1, 8, .int .u64, some (.u64 0), false, false⟩ := rfl
theorem Try.E_ty13 : Try.E.ty 13 = some ⟨2, 24, .str [(0, 9), (1, 12)], some (.agg [.str [], .u64 0]), false, false⟩ := rfl
theorem Try.E_ty14 : Try.E.ty 14 = some ⟨2, 24, .str [(0, 9), (1, 12)], some (.agg [.str [], .u64 0]), false, false⟩ := rfl
theorem Try.E_ty15 : Try.E.ty 15 = some ⟨1, 8, .ptr 55, some (.raw (.pointer none)), false, false⟩ := rfl
theorem Try.E_ty16 : Try.E.ty 16 = some ⟨1, 8, .ptr 58, some (.raw (.pointer none)), false, false⟩ := rfl
theorem Try.E_ty17 : Try.E.ty 17 = some ⟨1, 8, .ptr 68, some (.raw (.pointer none)), false, false⟩ := rfl
theorem Try.E_ty18 : Try.E.ty 18 = some ⟨1, 8, .str [(0, 17)], some (.agg [.raw (.pointer none)]), false, false⟩ := rfl
theorem Try.E_ty19 : Try.E.ty 19 = some ⟨1, 8, .str [(0, 17)], some (.agg [.raw (.pointer none)]), false, false⟩ := rfl
theorem Try.E_ty21 : Try.E.ty 21 = some ⟨1, 4, .int .i32, some (.int .i32 0), false, false⟩ := rfl
theorem Try.E_ty22 : Try.E.ty 22 = some ⟨1, 24, .slice 42, some (.vec true 4 []), false, false⟩ := rfl
theorem Try.E_ty23 : Try.E.ty 23 = some ⟨1, 24, .slice 26, some (.vec true 4 []), false, false⟩ := rfl
theorem Try.E_ty24 : Try.E.ty 24 = some ⟨1, 8, .other, some (.raw .nilFunc), false, false⟩ := rfl
theorem Try.E_ty25 : Try.E.ty 25 = some ⟨4, 48, .str [(0, 3), (1, 3), (2, 3), (3, 23)], some (.agg [.int .i64 0, .int .i64 0, .int .i64 0, .vec true 4 []]), false, false⟩ := rfl
theorem Try.E_ty26 : Try.E.ty 26 = some ⟨4, 48, .str [(0, 3), (1, 3), (2, 3), (3, 23)], some (.agg [.int .i64 0, .int .i64 0, .int .i64 0, .vec true 4 []]), false, false⟩ := rfl
theorem Try.E_ty28 : Try.E.ty 28 = some ⟨1, 8, .other, some (.raw .nilFunc), false, false⟩ := rfl
theorem Try.E_ty29 : Try.E.ty 29 = some ⟨1, 8, .other, some (.raw .nilFunc), false, false⟩ := rfl
theorem Try.E_ty30 : Try.E.ty 30 = some ⟨1, 8, .int .i64, some (.int .i64 0), false, false⟩ := rfl
theorem Try.E_ty32 : Try.E.ty 32 = some ⟨1, 8, .other, some (.raw .nilFunc), false, false⟩ := rfl
theorem Try.E_ty33 : Try.E.ty 33 = some ⟨1, 8, .other, some (.raw .nilFunc), false, false⟩ := rfl
theorem Try.E_ty34 : Try.E.ty 34 = some ⟨1, 8, .other, some (.raw .nilFunc), false, false⟩ := rfl
theorem Try.E_ty35 : Try.E.ty 35 = some ⟨1, 8, .other, some (.raw .nilFunc), false, false⟩ := rfl
theorem Try.E_ty36 : Try.E.ty 36 = some ⟨1, 8, .other, some (.raw .nilFunc), false, false⟩ := rfl
theorem Try.E_ty37 : Try.E.ty 37 = some ⟨1, 8, .other, some (.raw .nilFunc), false, false⟩ := rfl
theorem Try.E_ty38 : Try.E.ty 38 = some ⟨1, 8, .other, some (.raw .nilFunc), false, false⟩ := rfl
theorem Try.E_ty39 : Try.E.ty 39 = some ⟨1, 8, .other, some (.raw .nilFunc), false, false⟩ := rfl
theorem Try.E_ty40 : Try.E.ty 40 = some ⟨1, 8, .other, some (.raw .nilFunc), false, false⟩ := rfl
theorem Try.E_ty41 : Try.E.ty 41 = some ⟨4, 40, .str [(0, 3), (1, 3), (2, 3), (3, 9)], some (.agg [.int .i64 0, .int .i64 0, .int .i64 0, .str []]), true, true⟩ := rfl
theorem Try.E_ty42 : Try.E.ty 42 = some ⟨4, 40, .str [(0, 3), (1, 3), (2, 3), (3, 9)], some (.agg [.int .i64 0, .int .i64 0, .int .i64 0, .str []]), true, true⟩ := rfl
theorem Try.E_ty43 : Try.E.ty 43 = some ⟨1, 8, .other, some (.raw .nilFunc), false, false⟩ := rfl
theorem Try.E_ty44 : Try.E.ty 44 = some ⟨1, 8, .other, some (.raw .nilFunc), false, false⟩ := rfl
theorem Try.E_ty45 : Try.E.ty 45 = some ⟨1, 24, .slice 26, some (.vec true 4 []), false, false⟩ := rfl
theorem Try.E_ty46 : Try.E.ty 46 = some ⟨1, 8, .other, some (.raw .nilFunc), false, false⟩ := rfl
theorem Try.E_ty47 : Try.E.ty 47 = some ⟨1, 8, .other, some (.raw .nilFunc), false, false⟩ := rfl
theorem Try.E_ty48 : Try.E.ty 48 = some ⟨1, 8, .other, some (.raw .nilFunc), false, false⟩ := rfl
theorem Try.E_ty49 : Try.E.ty 49 = some ⟨1, 8, .other, some (.raw .nilFunc), false, false⟩ := rfl
theorem Try.E_ty50 : Try.E.ty 50 = some ⟨1, 8, .other, some (.raw .nilFunc), false, false⟩ := rfl
theorem Try.E_ty51 : Try.E.ty 51 = some ⟨1, 8, .other, some (.raw .nilFunc), false, false⟩ := rfl
theorem Try.E_ty52 : Try.E.ty 52 = some ⟨8, 64, .arr 8 3, some (.agg [.int .i64 0, .int .i64 0, .int .i64 0, .int .i64 0, .int .i64 0, .int .i64 0, .int .i64 0, .int .i64 0]), true, false⟩ := rfl
theorem Try.E_ty53 : Try.E.ty 53 = some ⟨1, 8, .other, some (.raw .nilFunc), false, false⟩ := rfl
theorem Try.E_ty54 : Try.E.ty 54 = some ⟨4, 40, .str [(0, 17), (1, 17), (2, 17), (3, 9)], some (.agg [.raw (.pointer none), .raw (.pointer none), .raw (.pointer none), .str []]), false, false⟩ := rfl
theorem Try.E_ty55 : Try.E.ty 55 = some ⟨4, 40, .str [(0, 17), (1, 17), (2, 17), (3, 9)], some (.agg [.raw (.pointer none), .raw (.pointer none), .raw (.pointer none), .str []]), false, false⟩ := rfl
theorem Try.E_ty56 : Try.E.ty 56 = some ⟨0, 0, .arr 0 16, some (.agg []), false, false⟩ := rfl
theorem Try.E_ty57 : Try.E.ty 57 = some ⟨0, 0, .str [(0, 56)], some (.agg []), false, false⟩ := rfl
theorem Try.E_ty58 : Try.E.ty 58 = some ⟨0, 0, .str [(0, 56)], some (.agg []), false, false⟩ := rfl
theorem Try.E_ty59 : Try.E.ty 59 = some ⟨1, 8, .other, some (.raw .nilFunc), false, false⟩ := rfl
theorem Try.E_ty60 : Try.E.ty 60 = some ⟨1, 4, .int .u32, some (.u32 0), false, false⟩ := rfl
theorem Try.E_ty61 : Try.E.ty 61 = some ⟨1, 1, .int .u8, some (.u8 0), false, false⟩ := rfl
theorem Try.E_ty62 : Try.E.ty 62 = some ⟨1, 1, .int .u8, some (.u8 0), false, false⟩ := rfl
theorem Try.E_ty63 : Try.E.ty 63 = some ⟨1, 8, .other, some (.raw .nilFunc), false, false⟩ := rfl
theorem Try.E_ty64 : Try.E.ty 64 = some ⟨1, 8, .ptr 5, some (.raw (.pointer none)), false, false⟩ := rfl
theorem Try.E_ty65 : Try.E.ty 65 = some ⟨1, 4, .int .i32, some (.int .i32 0), false, false⟩ := rfl
theorem Try.E_ty66 : Try.E.ty 66 = some ⟨1, 4, .int .i32, some (.int .i32 0), false, false⟩ := rfl
theorem Try.E_ty67 : Try.E.ty 67 = some ⟨11, 48, .str [(0, 12), (1, 12), (2, 60), (3, 61), (4, 5), (5, 5), (6, 62), (7, 63), (8, 64), (9, 65), (10, 66)], some (.agg [.u64 0, .u64 0, .u32 0, .u8 0, .u8 0, .u8 0, .u8 0, .raw .nilFunc, .raw (.pointer none), .int .i32 0, .int .i32 0]), false, false⟩ := rfl
theorem Try.E_ty68 : Try.E.ty 68 = some ⟨11, 48, .str [(0, 12), (1, 12), (2, 60), (3, 61), (4, 5), (5, 5), (6, 62), (7, 63), (8, 64), (9, 65), (10, 66)], some (.agg [.u64 0, .u64 0, .u32 0, .u8 0, .u8 0, .u8 0, .u8 0, .raw .nilFunc, .raw (.pointer none), .int .i32 0, .int .i32 0]), false, false⟩ := rfl
theorem Try.E_go3 : Try.E.go 3 = true := rfl
theorem Try.E_go4 : Try.E.go 4 = true := rfl
theorem Try.E_go5 : Try.E.go 5 = true := rfl
theorem Try.E_go6 : Try.E.go 6 = true := rfl
theorem Try.E_go7 : Try.E.go 7 = true := rfl
theorem Try.E_go8 : Try.E.go 8 = true := rfl
theorem Try.E_go9 : Try.E.go 9 = true := rfl
theorem Try.E_go10 : Try.E.go 10 = true := rfl
theorem Try.E_go11 : Try.E.go 11 = true := rfl
theorem Try.E_go12 : Try.E.go 12 = true := rfl
theorem Try.E_go13 : Try.E.go 13 = true := rfl
theorem Try.E_go14 : Try.E.go 14 = true := rfl
theorem Try.E_go15 : Try.E.go 15 = true := rfl
theorem Try.E_go16 : Try.E.go 16 = true := rfl
theorem Try.E_go17 : Try.E.go 17 = true := rfl
theorem Try.E_go18 : Try.E.go 18 = true := rfl
theorem Try.E_go19 : Try.E.go 19 = true := rfl
theorem Try.E_go20 : Try.E.go 20 = true := rfl
theorem Try.E_go21 : Try.E.go 21 = true := rfl
theorem Try.E_go22 : Try.E.go 22 = true := rfl
theorem Try.E_go23 : Try.E.go 23 = true := rfl
theorem Try.E_go24 : Try.E.go 24 = true := rfl
theorem Try.E_go25 : Try.E.go 25 = true := rfl
theorem Try.E_go26 : Try.E.go 26 = true := rfl
theorem Try.E_x3 : Try.E.x 3 = .go := rfl
theorem Try.E_x4 : Try.E.x 4 = .go := rfl
theorem Try.E_x5 : Try.E.x 5 = .go := rfl
theorem Try.E_x6 : Try.E.x 6 = .go := rfl
theorem Try.E_x7 : Try.E.x 7 = .go := rfl
theorem Try.E_x8 : Try.E.x 8 = .go := rfl
theorem Try.E_x9 : Try.E.x 9 = .go := rfl
theorem Try.E_x10 : Try.E.x 10 = .go := rfl
theorem Try.E_x11 : Try.E.x 11 = .go := rfl
theorem Try.E_x12 : Try.E.x 12 = .go := rfl
theorem Try.E_x13 : Try.E.x 13 = .go := rfl
theorem Try.E_x14 : Try.E.x 14 = .go := rfl
theorem Try.E_x15 : Try.E.x 15 = .go := rfl
theorem Try.E_x16 : Try.E.x 16 = .go := rfl
theorem Try.E_x17 : Try.E.x 17 = .go := rfl
theorem Try.E_x18 : Try.E.x 18 = .go := rfl
theorem Try.E_x19 : Try.E.x 19 = .go := rfl
theorem Try.E_x20 : Try.E.x 20 = .go := rfl
theorem Try.E_x21 : Try.E.x 21 = .go := rfl
theorem Try.E_x22 : Try.E.x 22 = .go := rfl
theorem Try.E_x23 : Try.E.x 23 = .go := rfl
theorem Try.E_x24 : Try.E.x 24 = .go := rfl
theorem Try.E_x25 : Try.E.x 25 = .go := rfl
theorem Try.E_x26 : Try.E.x 26 = .go := rfl
-- Try.ti1 Try.E_ty1 Try.ti2 Try.E_ty2 Try.ti3 Try.E_ty3 Try.ti4 Try.E_ty4
-- Try.ti5 Try.E_ty5 Try.ti6 Try.E_ty6 Try.ti7 Try.E_ty7 Try.ti8 Try.E_ty8
-- Try.ti9 Try.E_ty9 Try.ti10 Try.E_ty10 Try.ti11 Try.E_ty11 Try.ti12 Try.E_ty12
-- Try.ti13 Try.E_ty13 Try.ti14 Try.E_ty14 Try.ti15 Try.E_ty15 Try.ti16 Try.E_ty16
-- Try.ti17 Try.E_ty17 Try.ti18 Try.E_ty18 Try.ti19 Try.E_ty19 Try.ti21 Try.E_ty21
-- Try.ti22 Try.E_ty22 Try.ti23 Try.E_ty23 Try.ti24 Try.E_ty24 Try.ti25 Try.E_ty25
-- Try.ti26 Try.E_ty26 Try.ti28 Try.E_ty28 Try.ti29 Try.E_ty29 Try.ti30 Try.E_ty30
-- Try.ti32 Try.E_ty32 Try.ti33 Try.E_ty33 Try.ti34 Try.E_ty34 Try.ti35 Try.E_ty35
-- Try.ti36 Try.E_ty36 Try.ti37 Try.E_ty37 Try.ti38 Try.E_ty38 Try.ti39 Try.E_ty39
-- Try.ti40 Try.E_ty40 Try.ti41 Try.E_ty41 Try.ti42 Try.E_ty42 Try.ti43 Try.E_ty43
-- Try.ti44 Try.E_ty44 Try.ti45 Try.E_ty45 Try.ti46 Try.E_ty46 Try.ti47 Try.E_ty47
-- Try.ti48 Try.E_ty48 Try.ti49 Try.E_ty49 Try.ti50 Try.E_ty50 Try.ti51 Try.E_ty51
-- Try.ti52 Try.E_ty52 Try.ti53 Try.E_ty53 Try.ti54 Try.E_ty54 Try.ti55 Try.E_ty55
-- Try.ti56 Try.E_ty56 Try.ti57 Try.E_ty57 Try.ti58 Try.E_ty58 Try.ti59 Try.E_ty59
-- Try.ti60 Try.E_ty60 Try.ti61 Try.E_ty61 Try.ti62 Try.E_ty62 Try.ti63 Try.E_ty63
-- Try.ti64 Try.E_ty64 Try.ti65 Try.E_ty65 Try.ti66 Try.E_ty66 Try.ti67 Try.E_ty67
-- Try.ti68 Try.E_ty68 Try.E_go3 Try.E_go4 Try.E_go5 Try.E_go6 Try.E_go7 Try.E_go8
-- Try.E_go9 Try.E_go10 Try.E_go11 Try.E_go12 Try.E_go13 Try.E_go14 Try.E_go15 Try.E_go16
-- Try.E_go17 Try.E_go18 Try.E_go19 Try.E_go20 Try.E_go21 Try.E_go22 Try.E_go23 Try.E_go24
-- Try.E_go25 Try.E_go26 Try.E_x3 Try.E_x4 Try.E_x5 Try.E_x6 Try.E_x7 Try.E_x8
-- Try.E_x9 Try.E_x10 Try.E_x11 Try.E_x12 Try.E_x13 Try.E_x14 Try.E_x15 Try.E_x16
-- Try.E_x17 Try.E_x18 Try.E_x19 Try.E_x20 Try.E_x21 Try.E_x22 Try.E_x23 Try.E_x24
-- Try.E_x25 Try.E_x26
end Go.Proofs
