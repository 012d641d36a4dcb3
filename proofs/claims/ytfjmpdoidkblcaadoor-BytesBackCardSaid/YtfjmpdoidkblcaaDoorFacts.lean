/- Small facts of this seat's translation, by program (wip tools facts.py): types, zero values, functions with a body. -/
import Derived.Test.YtfjmpdoidkblcaaDoorProg
import Derived.Test.YtfjmpdoidkblcaaDoorAbsM
import Derived.KernelRfl
set_option linter.unusedSimpArgs false
set_option linter.unusedVariables false
namespace Go.Proofs
open Go Go.Ab

theorem Tryd.ti2 : tinfo Tryd.prog 2 = some ⟨1, 8, .int .i64⟩ := by kernel_rfl
theorem Tryd.tz2 : tzero Tryd.prog 2 = some (.int .i64 0) := by kernel_rfl
theorem Tryd.ti3 : tinfo Tryd.prog 3 = some ⟨1, 8, .int .i64⟩ := by kernel_rfl
theorem Tryd.tz3 : tzero Tryd.prog 3 = some (.int .i64 0) := by kernel_rfl
theorem Tryd.ti4 : tinfo Tryd.prog 4 = some ⟨1, 1, .bool⟩ := by kernel_rfl
theorem Tryd.tz4 : tzero Tryd.prog 4 = some (.bool false) := by kernel_rfl
theorem Tryd.ti5 : tinfo Tryd.prog 5 = some ⟨1, 1, .int .u8⟩ := by kernel_rfl
theorem Tryd.tz5 : tzero Tryd.prog 5 = some (.u8 0) := by kernel_rfl
theorem Tryd.ti6 : tinfo Tryd.prog 6 = some ⟨1, 1, .int .u8⟩ := by kernel_rfl
theorem Tryd.tz6 : tzero Tryd.prog 6 = some (.u8 0) := by kernel_rfl
theorem Tryd.ti7 : tinfo Tryd.prog 7 = some ⟨4, 24, .str [(0, 2), (1, 3), (2, 4), (3, 6)]⟩ := by kernel_rfl
theorem Tryd.tz7 : tzero Tryd.prog 7 = some (.agg ([.int .i64 0, .int .i64 0, .bool false, .u8 0])) := by kernel_rfl
theorem Tryd.ti8 : tinfo Tryd.prog 8 = some ⟨4, 24, .str [(0, 2), (1, 3), (2, 4), (3, 6)]⟩ := by kernel_rfl
theorem Tryd.tz8 : tzero Tryd.prog 8 = some (.agg ([.int .i64 0, .int .i64 0, .bool false, .u8 0])) := by kernel_rfl
theorem Tryd.ti9 : tinfo Tryd.prog 9 = some ⟨1, 16, .string⟩ := by kernel_rfl
theorem Tryd.tz9 : tzero Tryd.prog 9 = some (.str []) := by kernel_rfl
theorem Tryd.ti10 : tinfo Tryd.prog 10 = some ⟨1, 16, .string⟩ := by kernel_rfl
theorem Tryd.tz10 : tzero Tryd.prog 10 = some (.str []) := by kernel_rfl
theorem Tryd.ti11 : tinfo Tryd.prog 11 = some ⟨1, 16, .string⟩ := by kernel_rfl
theorem Tryd.tz11 : tzero Tryd.prog 11 = some (.str []) := by kernel_rfl
theorem Tryd.ti12 : tinfo Tryd.prog 12 = some ⟨1, 8, .int .u64⟩ := by kernel_rfl
theorem Tryd.tz12 : tzero Tryd.prog 12 = some (.u64 0) := by kernel_rfl
theorem Tryd.ti13 : tinfo Tryd.prog 13 = some ⟨2, 24, .str [(0, 9), (1, 12)]⟩ := by kernel_rfl
theorem Tryd.tz13 : tzero Tryd.prog 13 = some (.agg ([.str [], .u64 0])) := by kernel_rfl
theorem Tryd.ti14 : tinfo Tryd.prog 14 = some ⟨2, 24, .str [(0, 9), (1, 12)]⟩ := by kernel_rfl
theorem Tryd.tz14 : tzero Tryd.prog 14 = some (.agg ([.str [], .u64 0])) := by kernel_rfl
theorem Tryd.ti15 : tinfo Tryd.prog 15 = some ⟨1, 8, .ptr 66⟩ := by kernel_rfl
theorem Tryd.tz15 : tzero Tryd.prog 15 = some (.raw (.pointer none)) := by kernel_rfl
theorem Tryd.ti16 : tinfo Tryd.prog 16 = some ⟨1, 8, .ptr 69⟩ := by kernel_rfl
theorem Tryd.tz16 : tzero Tryd.prog 16 = some (.raw (.pointer none)) := by kernel_rfl
theorem Tryd.ti17 : tinfo Tryd.prog 17 = some ⟨1, 8, .ptr 79⟩ := by kernel_rfl
theorem Tryd.tz17 : tzero Tryd.prog 17 = some (.raw (.pointer none)) := by kernel_rfl
theorem Tryd.ti18 : tinfo Tryd.prog 18 = some ⟨1, 8, .str [(0, 17)]⟩ := by kernel_rfl
theorem Tryd.tz18 : tzero Tryd.prog 18 = some (.agg ([.raw (.pointer none)])) := by kernel_rfl
theorem Tryd.ti19 : tinfo Tryd.prog 19 = some ⟨1, 8, .str [(0, 17)]⟩ := by kernel_rfl
theorem Tryd.tz19 : tzero Tryd.prog 19 = some (.agg ([.raw (.pointer none)])) := by kernel_rfl
theorem Tryd.ti21 : tinfo Tryd.prog 21 = some ⟨1, 4, .int .i32⟩ := by kernel_rfl
theorem Tryd.tz21 : tzero Tryd.prog 21 = some (.int .i32 0) := by kernel_rfl
theorem Tryd.ti22 : tinfo Tryd.prog 22 = some ⟨32, 32, .arr 32 5⟩ := by kernel_rfl
theorem Tryd.tz22 : tzero Tryd.prog 22 = some (.agg (u8s (List.replicate 32 0))) := by kernel_rfl
theorem Tryd.ti23 : tinfo Tryd.prog 23 = some ⟨1, 8, .int .u64⟩ := by kernel_rfl
theorem Tryd.tz23 : tzero Tryd.prog 23 = some (.u64 0) := by kernel_rfl
theorem Tryd.ti24 : tinfo Tryd.prog 24 = some ⟨4, 32, .arr 4 23⟩ := by kernel_rfl
theorem Tryd.tz24 : tzero Tryd.prog 24 = some (.agg (u64s (List.replicate 4 0))) := by kernel_rfl
theorem Tryd.ti25 : tinfo Tryd.prog 25 = some ⟨4, 32, .arr 4 23⟩ := by kernel_rfl
theorem Tryd.tz25 : tzero Tryd.prog 25 = some (.agg (u64s (List.replicate 4 0))) := by kernel_rfl
theorem Tryd.ti27 : tinfo Tryd.prog 27 = some ⟨1, 8, .int .i64⟩ := by kernel_rfl
theorem Tryd.tz27 : tzero Tryd.prog 27 = some (.int .i64 0) := by kernel_rfl
theorem Tryd.ti38 : tinfo Tryd.prog 38 = some ⟨32, 32, .arr 32 5⟩ := by kernel_rfl
theorem Tryd.tz38 : tzero Tryd.prog 38 = some (.agg (u8s (List.replicate 32 0))) := by kernel_rfl
theorem Tryd.ti43 : tinfo Tryd.prog 43 = some ⟨1, 24, .slice 38⟩ := by kernel_rfl
theorem Tryd.tz43 : tzero Tryd.prog 43 = some (.vec true 0 []) := by kernel_rfl
theorem Tryd.ti44 : tinfo Tryd.prog 44 = some ⟨1, 24, .slice 5⟩ := by kernel_rfl
theorem Tryd.tz44 : tzero Tryd.prog 44 = some (.vec true 0 []) := by kernel_rfl
theorem Tryd.ti45 : tinfo Tryd.prog 45 = some ⟨1, 24, .slice 9⟩ := by kernel_rfl
theorem Tryd.tz45 : tzero Tryd.prog 45 = some (.vec true 0 []) := by kernel_rfl
theorem Tryd.ti51 : tinfo Tryd.prog 51 = some ⟨8, 64, .arr 2 25⟩ := by kernel_rfl
theorem Tryd.tz51 : tzero Tryd.prog 51 = some (.agg (u64s (List.replicate 8 0))) := by kernel_rfl
theorem Tryd.ti52 : tinfo Tryd.prog 52 = some ⟨16, 128, .str [(0, 51), (8, 51)]⟩ := by kernel_rfl
theorem Tryd.tz52 : tzero Tryd.prog 52 = some (.agg (u64s (List.replicate 16 0))) := by kernel_rfl
theorem Tryd.ti53 : tinfo Tryd.prog 53 = some ⟨16, 128, .str [(0, 51), (8, 51)]⟩ := by kernel_rfl
theorem Tryd.tz53 : tzero Tryd.prog 53 = some (.agg (u64s (List.replicate 16 0))) := by kernel_rfl
theorem Tryd.ti61 : tinfo Tryd.prog 61 = some ⟨8, 64, .arr 8 23⟩ := by kernel_rfl
theorem Tryd.tz61 : tzero Tryd.prog 61 = some (.agg (u64s (List.replicate 8 0))) := by kernel_rfl
theorem Tryd.ti63 : tinfo Tryd.prog 63 = some ⟨1, 8, .int .u64⟩ := by kernel_rfl
theorem Tryd.tz63 : tzero Tryd.prog 63 = some (.u64 0) := by kernel_rfl
theorem Tryd.ti65 : tinfo Tryd.prog 65 = some ⟨4, 40, .str [(0, 17), (1, 17), (2, 17), (3, 9)]⟩ := by kernel_rfl
theorem Tryd.tz65 : tzero Tryd.prog 65 = some (.agg ([.raw (.pointer none), .raw (.pointer none), .raw (.pointer none), .str []])) := by kernel_rfl
theorem Tryd.ti66 : tinfo Tryd.prog 66 = some ⟨4, 40, .str [(0, 17), (1, 17), (2, 17), (3, 9)]⟩ := by kernel_rfl
theorem Tryd.tz66 : tzero Tryd.prog 66 = some (.agg ([.raw (.pointer none), .raw (.pointer none), .raw (.pointer none), .str []])) := by kernel_rfl
theorem Tryd.ti67 : tinfo Tryd.prog 67 = some ⟨0, 0, .arr 0 16⟩ := by kernel_rfl
theorem Tryd.tz67 : tzero Tryd.prog 67 = some (.agg []) := by kernel_rfl
theorem Tryd.ti68 : tinfo Tryd.prog 68 = some ⟨0, 0, .str [(0, 67)]⟩ := by kernel_rfl
theorem Tryd.tz68 : tzero Tryd.prog 68 = some (.agg []) := by kernel_rfl
theorem Tryd.ti69 : tinfo Tryd.prog 69 = some ⟨0, 0, .str [(0, 67)]⟩ := by kernel_rfl
theorem Tryd.tz69 : tzero Tryd.prog 69 = some (.agg []) := by kernel_rfl
theorem Tryd.ti71 : tinfo Tryd.prog 71 = some ⟨1, 4, .int .u32⟩ := by kernel_rfl
theorem Tryd.tz71 : tzero Tryd.prog 71 = some (.u32 0) := by kernel_rfl
theorem Tryd.ti72 : tinfo Tryd.prog 72 = some ⟨1, 1, .int .u8⟩ := by kernel_rfl
theorem Tryd.tz72 : tzero Tryd.prog 72 = some (.u8 0) := by kernel_rfl
theorem Tryd.ti73 : tinfo Tryd.prog 73 = some ⟨1, 1, .int .u8⟩ := by kernel_rfl
theorem Tryd.tz73 : tzero Tryd.prog 73 = some (.u8 0) := by kernel_rfl
theorem Tryd.ti75 : tinfo Tryd.prog 75 = some ⟨1, 8, .ptr 5⟩ := by kernel_rfl
theorem Tryd.tz75 : tzero Tryd.prog 75 = some (.raw (.pointer none)) := by kernel_rfl
theorem Tryd.ti76 : tinfo Tryd.prog 76 = some ⟨1, 4, .int .i32⟩ := by kernel_rfl
theorem Tryd.tz76 : tzero Tryd.prog 76 = some (.int .i32 0) := by kernel_rfl
theorem Tryd.ti77 : tinfo Tryd.prog 77 = some ⟨1, 4, .int .i32⟩ := by kernel_rfl
theorem Tryd.tz77 : tzero Tryd.prog 77 = some (.int .i32 0) := by kernel_rfl
theorem Tryd.ti78 : tinfo Tryd.prog 78 = some ⟨11, 48, .str [(0, 12), (1, 12), (2, 71), (3, 72), (4, 5), (5, 5), (6, 73), (7, 74), (8, 75), (9, 76), (10, 77)]⟩ := by kernel_rfl
theorem Tryd.tz78 : tzero Tryd.prog 78 = some (.agg (u64s (List.replicate 2 0) ++ [.u32 0] ++ u8s (List.replicate 4 0) ++ [.raw .nilFunc, .raw (.pointer none), .int .i32 0, .int .i32 0])) := by kernel_rfl
theorem Tryd.ti79 : tinfo Tryd.prog 79 = some ⟨11, 48, .str [(0, 12), (1, 12), (2, 71), (3, 72), (4, 5), (5, 5), (6, 73), (7, 74), (8, 75), (9, 76), (10, 77)]⟩ := by kernel_rfl
theorem Tryd.tz79 : tzero Tryd.prog 79 = some (.agg (u64s (List.replicate 2 0) ++ [.u32 0] ++ u8s (List.replicate 4 0) ++ [.raw .nilFunc, .raw (.pointer none), .int .i32 0, .int .i32 0])) := by kernel_rfl
theorem Tryd.ef22 : eqFree Tryd.prog 22 := by unfold eqFree; kernel_rfl
theorem Tryd.ef24 : eqFree Tryd.prog 24 := by unfold eqFree; kernel_rfl
theorem Tryd.ef25 : eqFree Tryd.prog 25 := by unfold eqFree; kernel_rfl
theorem Tryd.ef38 : eqFree Tryd.prog 38 := by unfold eqFree; kernel_rfl
theorem Tryd.ef51 : eqFree Tryd.prog 51 := by unfold eqFree; kernel_rfl
theorem Tryd.ef52 : eqFree Tryd.prog 52 := by unfold eqFree; kernel_rfl
theorem Tryd.so52 : strOk Tryd.prog 52 = true := by kernel_rfl
theorem Tryd.ef53 : eqFree Tryd.prog 53 := by unfold eqFree; kernel_rfl
theorem Tryd.so53 : strOk Tryd.prog 53 = true := by kernel_rfl
theorem Tryd.ef61 : eqFree Tryd.prog 61 := by unfold eqFree; kernel_rfl
theorem Tryd.go3 : GoFn Tryd.prog 3 := by
  unfold GoFn; rw [Tryd.func3]; exact ⟨by kernel_rfl, by kernel_rfl⟩
theorem Tryd.go4 : GoFn Tryd.prog 4 := by
  unfold GoFn; rw [Tryd.func4]; exact ⟨by kernel_rfl, by kernel_rfl⟩
theorem Tryd.go5 : GoFn Tryd.prog 5 := by
  unfold GoFn; rw [Tryd.func5]; exact ⟨by kernel_rfl, by kernel_rfl⟩
theorem Tryd.go6 : GoFn Tryd.prog 6 := by
  unfold GoFn; rw [Tryd.func6]; exact ⟨by kernel_rfl, by kernel_rfl⟩
theorem Tryd.go7 : GoFn Tryd.prog 7 := by
  unfold GoFn; rw [Tryd.func7]; exact ⟨by kernel_rfl, by kernel_rfl⟩
theorem Tryd.go8 : GoFn Tryd.prog 8 := by
  unfold GoFn; rw [Tryd.func8]; exact ⟨by kernel_rfl, by kernel_rfl⟩
theorem Tryd.go9 : GoFn Tryd.prog 9 := by
  unfold GoFn; rw [Tryd.func9]; exact ⟨by kernel_rfl, by kernel_rfl⟩
theorem Tryd.go10 : GoFn Tryd.prog 10 := by
  unfold GoFn; rw [Tryd.func10]; exact ⟨by kernel_rfl, by kernel_rfl⟩
theorem Tryd.go11 : GoFn Tryd.prog 11 := by
  unfold GoFn; rw [Tryd.func11]; exact ⟨by kernel_rfl, by kernel_rfl⟩
theorem Tryd.go12 : GoFn Tryd.prog 12 := by
  unfold GoFn; rw [Tryd.func12]; exact ⟨by kernel_rfl, by kernel_rfl⟩
theorem Tryd.go13 : GoFn Tryd.prog 13 := by
  unfold GoFn; rw [Tryd.func13]; exact ⟨by kernel_rfl, by kernel_rfl⟩
theorem Tryd.go14 : GoFn Tryd.prog 14 := by
  unfold GoFn; rw [Tryd.func14]; exact ⟨by kernel_rfl, by kernel_rfl⟩
theorem Tryd.go15 : GoFn Tryd.prog 15 := by
  unfold GoFn; rw [Tryd.func15]; exact ⟨by kernel_rfl, by kernel_rfl⟩
theorem Tryd.go16 : GoFn Tryd.prog 16 := by
  unfold GoFn; rw [Tryd.func16]; exact ⟨by kernel_rfl, by kernel_rfl⟩
theorem Tryd.go17 : GoFn Tryd.prog 17 := by
  unfold GoFn; rw [Tryd.func17]; exact ⟨by kernel_rfl, by kernel_rfl⟩
theorem Tryd.go18 : GoFn Tryd.prog 18 := by
  unfold GoFn; rw [Tryd.func18]; exact ⟨by kernel_rfl, by kernel_rfl⟩
theorem Tryd.go19 : GoFn Tryd.prog 19 := by
  unfold GoFn; rw [Tryd.func19]; exact ⟨by kernel_rfl, by kernel_rfl⟩
theorem Tryd.go20 : GoFn Tryd.prog 20 := by
  unfold GoFn; rw [Tryd.func20]; exact ⟨by kernel_rfl, by kernel_rfl⟩
theorem Tryd.go21 : GoFn Tryd.prog 21 := by
  unfold GoFn; rw [Tryd.func21]; exact ⟨by kernel_rfl, by kernel_rfl⟩
theorem Tryd.go22 : GoFn Tryd.prog 22 := by
  unfold GoFn; rw [Tryd.func22]; exact ⟨by kernel_rfl, by kernel_rfl⟩
theorem Tryd.go23 : GoFn Tryd.prog 23 := by
  unfold GoFn; rw [Tryd.func23]; exact ⟨by kernel_rfl, by kernel_rfl⟩
theorem Tryd.go24 : GoFn Tryd.prog 24 := by
  unfold GoFn; rw [Tryd.func24]; exact ⟨by kernel_rfl, by kernel_rfl⟩
theorem Tryd.go25 : GoFn Tryd.prog 25 := by
  unfold GoFn; rw [Tryd.func25]; exact ⟨by kernel_rfl, by kernel_rfl⟩
theorem Tryd.go26 : GoFn Tryd.prog 26 := by
  unfold GoFn; rw [Tryd.func26]; exact ⟨by kernel_rfl, by kernel_rfl⟩
theorem Tryd.go27 : GoFn Tryd.prog 27 := by
  unfold GoFn; rw [Tryd.func27]; exact ⟨by kernel_rfl, by kernel_rfl⟩
theorem Tryd.go28 : GoFn Tryd.prog 28 := by
  unfold GoFn; rw [Tryd.func28]; exact ⟨by kernel_rfl, by kernel_rfl⟩
theorem Tryd.go29 : GoFn Tryd.prog 29 := by
  unfold GoFn; rw [Tryd.func29]; exact ⟨by kernel_rfl, by kernel_rfl⟩
theorem Tryd.go30 : GoFn Tryd.prog 30 := by
  unfold GoFn; rw [Tryd.func30]; exact ⟨by kernel_rfl, by kernel_rfl⟩
theorem Tryd.go31 : GoFn Tryd.prog 31 := by
  unfold GoFn; rw [Tryd.func31]; exact ⟨by kernel_rfl, by kernel_rfl⟩
theorem Tryd.go32 : GoFn Tryd.prog 32 := by
  unfold GoFn; rw [Tryd.func32]; exact ⟨by kernel_rfl, by kernel_rfl⟩
theorem Tryd.go34 : GoFn Tryd.prog 34 := by
  unfold GoFn; rw [Tryd.func34]; exact ⟨by kernel_rfl, by kernel_rfl⟩
theorem Tryd.go35 : GoFn Tryd.prog 35 := by
  unfold GoFn; rw [Tryd.func35]; exact ⟨by kernel_rfl, by kernel_rfl⟩
theorem Tryd.go36 : GoFn Tryd.prog 36 := by
  unfold GoFn; rw [Tryd.func36]; exact ⟨by kernel_rfl, by kernel_rfl⟩
theorem Tryd.go37 : GoFn Tryd.prog 37 := by
  unfold GoFn; rw [Tryd.func37]; exact ⟨by kernel_rfl, by kernel_rfl⟩
theorem Tryd.go38 : GoFn Tryd.prog 38 := by
  unfold GoFn; rw [Tryd.func38]; exact ⟨by kernel_rfl, by kernel_rfl⟩
theorem Tryd.ext33 : IsExt Tryd.prog 33 add64Entry := fun args w => run_callFunc_extern Tryd.func33 (by kernel_rfl) (by kernel_rfl) (by kernel_rfl) (by kernel_rfl) args w
theorem Tryd.ext39 : IsExt Tryd.prog 39 sub64Entry := fun args w => run_callFunc_extern Tryd.func39 (by kernel_rfl) (by kernel_rfl) (by kernel_rfl) (by kernel_rfl) args w
theorem Tryd.follows : Tryd.prog.follows .mixedOrders = true := by kernel_rfl
def Tryd.xk (f : Nat) : FK := if f = 33 then FK.add64 else if f = 39 then FK.sub64 else FK.go
theorem Tryd.xk3 : Tryd.xk 3 = .go := rfl
theorem Tryd.xk4 : Tryd.xk 4 = .go := rfl
theorem Tryd.xk5 : Tryd.xk 5 = .go := rfl
theorem Tryd.xk6 : Tryd.xk 6 = .go := rfl
theorem Tryd.xk7 : Tryd.xk 7 = .go := rfl
theorem Tryd.xk8 : Tryd.xk 8 = .go := rfl
theorem Tryd.xk9 : Tryd.xk 9 = .go := rfl
theorem Tryd.xk10 : Tryd.xk 10 = .go := rfl
theorem Tryd.xk11 : Tryd.xk 11 = .go := rfl
theorem Tryd.xk12 : Tryd.xk 12 = .go := rfl
theorem Tryd.xk13 : Tryd.xk 13 = .go := rfl
theorem Tryd.xk14 : Tryd.xk 14 = .go := rfl
theorem Tryd.xk15 : Tryd.xk 15 = .go := rfl
theorem Tryd.xk16 : Tryd.xk 16 = .go := rfl
theorem Tryd.xk17 : Tryd.xk 17 = .go := rfl
theorem Tryd.xk18 : Tryd.xk 18 = .go := rfl
theorem Tryd.xk19 : Tryd.xk 19 = .go := rfl
theorem Tryd.xk20 : Tryd.xk 20 = .go := rfl
theorem Tryd.xk21 : Tryd.xk 21 = .go := rfl
theorem Tryd.xk22 : Tryd.xk 22 = .go := rfl
theorem Tryd.xk23 : Tryd.xk 23 = .go := rfl
theorem Tryd.xk24 : Tryd.xk 24 = .go := rfl
theorem Tryd.xk25 : Tryd.xk 25 = .go := rfl
theorem Tryd.xk26 : Tryd.xk 26 = .go := rfl
theorem Tryd.xk27 : Tryd.xk 27 = .go := rfl
theorem Tryd.xk28 : Tryd.xk 28 = .go := rfl
theorem Tryd.xk29 : Tryd.xk 29 = .go := rfl
theorem Tryd.xk30 : Tryd.xk 30 = .go := rfl
theorem Tryd.xk31 : Tryd.xk 31 = .go := rfl
theorem Tryd.xk32 : Tryd.xk 32 = .go := rfl
theorem Tryd.xk33 : Tryd.xk 33 = .add64 := rfl
theorem Tryd.xk34 : Tryd.xk 34 = .go := rfl
theorem Tryd.xk35 : Tryd.xk 35 = .go := rfl
theorem Tryd.xk36 : Tryd.xk 36 = .go := rfl
theorem Tryd.xk37 : Tryd.xk 37 = .go := rfl
theorem Tryd.xk38 : Tryd.xk 38 = .go := rfl
theorem Tryd.xk39 : Tryd.xk 39 = .sub64 := rfl
attribute [push_cast] Tryd.ti2 Tryd.tz2 Tryd.ti3 Tryd.tz3 Tryd.ti4 Tryd.tz4 Tryd.ti5 Tryd.tz5
attribute [push_cast] Tryd.ti6 Tryd.tz6 Tryd.ti7 Tryd.tz7 Tryd.ti8 Tryd.tz8 Tryd.ti9 Tryd.tz9
attribute [push_cast] Tryd.ti10 Tryd.tz10 Tryd.ti11 Tryd.tz11 Tryd.ti12 Tryd.tz12 Tryd.ti13 Tryd.tz13
attribute [push_cast] Tryd.ti14 Tryd.tz14 Tryd.ti15 Tryd.tz15 Tryd.ti16 Tryd.tz16 Tryd.ti17 Tryd.tz17
attribute [push_cast] Tryd.ti18 Tryd.tz18 Tryd.ti19 Tryd.tz19 Tryd.ti21 Tryd.tz21 Tryd.ti22 Tryd.tz22
attribute [push_cast] Tryd.ti23 Tryd.tz23 Tryd.ti24 Tryd.tz24 Tryd.ti25 Tryd.tz25 Tryd.ti27 Tryd.tz27
attribute [push_cast] Tryd.ti38 Tryd.tz38 Tryd.ti43 Tryd.tz43 Tryd.ti44 Tryd.tz44 Tryd.ti45 Tryd.tz45
attribute [push_cast] Tryd.ti51 Tryd.tz51 Tryd.ti52 Tryd.tz52 Tryd.ti53 Tryd.tz53 Tryd.ti61 Tryd.tz61
attribute [push_cast] Tryd.ti63 Tryd.tz63 Tryd.ti65 Tryd.tz65 Tryd.ti66 Tryd.tz66 Tryd.ti67 Tryd.tz67
attribute [push_cast] Tryd.ti68 Tryd.tz68 Tryd.ti69 Tryd.tz69 Tryd.ti71 Tryd.tz71 Tryd.ti72 Tryd.tz72
attribute [push_cast] Tryd.ti73 Tryd.tz73 Tryd.ti75 Tryd.tz75 Tryd.ti76 Tryd.tz76 Tryd.ti77 Tryd.tz77
attribute [push_cast] Tryd.ti78 Tryd.tz78 Tryd.ti79 Tryd.tz79 Tryd.ef22 Tryd.ef24 Tryd.ef25 Tryd.ef38
attribute [push_cast] Tryd.ef51 Tryd.ef52 Tryd.so52 Tryd.ef53 Tryd.so53 Tryd.ef61 Tryd.go3 Tryd.go4
attribute [push_cast] Tryd.go5 Tryd.go6 Tryd.go7 Tryd.go8 Tryd.go9 Tryd.go10 Tryd.go11 Tryd.go12
attribute [push_cast] Tryd.go13 Tryd.go14 Tryd.go15 Tryd.go16 Tryd.go17 Tryd.go18 Tryd.go19 Tryd.go20
attribute [push_cast] Tryd.go21 Tryd.go22 Tryd.go23 Tryd.go24 Tryd.go25 Tryd.go26 Tryd.go27 Tryd.go28
attribute [push_cast] Tryd.go29 Tryd.go30 Tryd.go31 Tryd.go32 Tryd.go34 Tryd.go35 Tryd.go36 Tryd.go37
attribute [push_cast] Tryd.go38 Tryd.ext33 Tryd.ext39 Tryd.follows Tryd.xk3 Tryd.xk4 Tryd.xk5 Tryd.xk6
attribute [push_cast] Tryd.xk7 Tryd.xk8 Tryd.xk9 Tryd.xk10 Tryd.xk11 Tryd.xk12 Tryd.xk13 Tryd.xk14
attribute [push_cast] Tryd.xk15 Tryd.xk16 Tryd.xk17 Tryd.xk18 Tryd.xk19 Tryd.xk20 Tryd.xk21 Tryd.xk22
attribute [push_cast] Tryd.xk23 Tryd.xk24 Tryd.xk25 Tryd.xk26 Tryd.xk27 Tryd.xk28 Tryd.xk29 Tryd.xk30
attribute [push_cast] Tryd.xk31 Tryd.xk32 Tryd.xk33 Tryd.xk34 Tryd.xk35 Tryd.xk36 Tryd.xk37 Tryd.xk38
attribute [push_cast] Tryd.xk39
end Go.Proofs
namespace Go.Proofs.YtfjmpdoidkblcaaDoor
open Go Go.Ab
def GL : Glob := ⟨fun g => if g = 0 then some (u64s [18446744073709551597, 18446744073709551615, 18446744073709551615, 9223372036854775807]) else none, Tryd.xk⟩
@[push_cast] theorem GL_x : GL.x = Tryd.xk := rfl
@[push_cast] theorem GL_prime {t : List AV} : evA GL t (.global 0) = .vp (u64s [18446744073709551597, 18446744073709551615, 18446744073709551615, 9223372036854775807]) 0 := rfl
end Go.Proofs.YtfjmpdoidkblcaaDoor
