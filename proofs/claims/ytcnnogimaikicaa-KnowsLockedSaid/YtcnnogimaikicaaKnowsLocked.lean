/- signetkeep.KnowsLocked: it returns true for every input, and its arguments read behind the call as they did. No condition beside those of the given row. -/
import Derived.Test.YtcnnogimaikicaaZzak
import Derived.Test.YtcnnogimaikicaaZzag
import Derived.Test.YtcnnogimaikicaaRows

set_option linter.unusedSimpArgs false
set_option linter.unusedVariables false
namespace Go.Proofs.Ytcnnogimaikicaa.knowsLocked
open Go Go.V Go.ChangeShapes Go.WideShapes Go.RowKit

theorem own : ownKnob Try.prog.godebug = none := by kernel_rfl
theorem laidOut : laidOutB Try.prog = true := by kernel_rfl
theorem und22 : Try.prog.underlying 22 = some (.slice 42) := by kernel_rfl
theorem cel22 : Try.prog.cellsOf 22 = 1 := by kernel_rfl
theorem cel42 : Try.prog.cellsOf 42 = 4 := by kernel_rfl
noncomputable def flds42 : Array Field := match Try.prog.underlying 42 with | some (.struct fs) => fs | _ => #[]
theorem und42 : Try.prog.underlying 42 = some (.struct flds42) := by kernel_rfl
theorem fld42_0 : (flds42[0]?).map (fun f => (f.offset, f.type)) = some (0, 3) := by kernel_rfl
theorem und3 : Try.prog.underlying 3 = some (.int .i64) := by kernel_rfl
theorem cel3 : Try.prog.cellsOf 3 = 1 := by kernel_rfl
theorem fld42_1 : (flds42[1]?).map (fun f => (f.offset, f.type)) = some (1, 3) := by kernel_rfl
theorem fld42_2 : (flds42[2]?).map (fun f => (f.offset, f.type)) = some (2, 3) := by kernel_rfl
theorem fld42_3 : (flds42[3]?).map (fun f => (f.offset, f.type)) = some (3, 9) := by kernel_rfl
theorem und9 : Try.prog.underlying 9 = some (.string) := by kernel_rfl
theorem cel9 : Try.prog.cellsOf 9 = 1 := by kernel_rfl
theorem und4 : Try.prog.underlying 4 = some (.bool) := by kernel_rfl
theorem cel4 : Try.prog.cellsOf 4 = 1 := by kernel_rfl

theorem globs {W : World} : ∀ n c, Try.E.g n = some c → ∃ vs, RL noR (I0 W) W c vs ∧ Lies (I0 W) W n 0 vs := by intro n c hg; have hg : none = some c := hg; simp at hg

theorem contract (H : Type) (enc : TypeId × Value → H) (W : World) (base : Nat) (args : Array Value) (ds gs : List (DataW H)) (before : List MemPlace)
    (hval : ∀ (j : Nat) t v, Try.f6.params[j]? = some t → args[j]? = some v → Value.okWide Try.prog W .any base t v)
    (hW : DataW.Whole enc Try.prog Try.f6.params.toList Rows.knowsLockedSpec.vars false W args.toList ds gs before) :
    Calls Try.prog 6 args W fun e W' => ∃ v, e = .returned v ∧ Rows.knowsLockedSpec.post enc Try.prog Try.f6 false true false false W args v W' := by
  have hW' := hW
  obtain ⟨p, q, hA0, hV, rfl, hfz, hnd⟩ := hW
  have hA : DataW.TrodAll enc Try.prog W 0 (fun _ => true) true Try.f6.params.toList args.toList ds p := hA0
  rw [Try.params6] at hA hval
  obtain ⟨v0, vs0, d0, ds0, p0, q0, e0, rfl, rfl, h0, r0⟩ := trodAll_cons hA
  obtain ⟨v1, vs1, d1, ds1, p1, q1, e1, rfl, rfl, h1, r1⟩ := trodAll_cons r0
  subst e1
  obtain ⟨rfl, rfl, rfl⟩ := trodAll_nil r1
  obtain rfl : args = #[v0, v1] := by cases args; simp_all
  obtain ⟨rfl, rfl⟩ := trodVars_none hV
  obtain ⟨x0, n0, a0⟩ := open_rawsR und22 und42 fld42_0 fld42_1 fld42_2 fld42_3 und3 und9 cel3 cel9 cel42 (hval 0 22 v0 rfl rfl) h0
  obtain ⟨x1, n1, a1⟩ := open_rawsR und22 und42 fld42_0 fld42_1 fld42_2 fld42_3 und3 und9 cel3 cel9 cel42 (hval 1 22 v1 rfl rfl) h1
  have hb := calls_of_law (args := #[v0, v1]) (base_conc (globs (W := W))) (RV_cons.2 ⟨_, _, rfl, a0, (RV_cons.2 ⟨_, _, rfl, a1, RV_nil.2 rfl⟩)⟩) (knowsLocked_c x0 n0 x1 n1)
  refine hb.mono ?_
  rintro e W' ⟨rfl, hbel⟩
  exact ⟨_, rfl, post_of_true hW' rfl rfl rfl und4 laidOut (by rw [Try.params6]; exact of_decide_eq_true (by kernel_rfl)) hbel⟩

def wArgs : Array Value := #[Value.slice none 0 0, Value.slice none 0 0]
theorem reads (os : Os) {H : Type} (enc : TypeId × Value → H) : ∃ places, DataW.whole enc Try.prog ((World.holding Try.prog os ⟨#[], #[], []⟩).forCall (fun _ _ => 0) ⟨#[], wArgs, []⟩).memory Try.f6.params.toList Rows.knowsLockedSpec.vars false wArgs.toList 8 = some ([.nil, .nil], [], places) :=
  ⟨[], by kernel_rfl⟩

set_option maxRecDepth 100000 in
theorem lifted (os : Os) (started : os.Started) (H : Type) (enc : TypeId × Value → H) (F : Stop.Interp) :
    ReturnsInHanded {} Try.checked os 6 .any ((OpenSpec.ofChange Rows.knowsLockedSpec).preRow enc Try.prog Try.f6 Rows.knowsLockedRow.domain false Rows.knowsLockedRow.laid) (((OpenSpec.ofChange Rows.knowsLockedSpec).at F).post enc Try.prog Try.f6 false true false false) := by
  obtain ⟨places, hx⟩ := reads os enc
  refine returnsInHanded_of_row (C := Try.checked) (s := OpenSpec.ofChange Rows.knowsLockedSpec) own started (by kernel_rfl) Try.func6
    (witness_row_at (enc := enc) (C := Try.checked) false (World.holding Try.prog os ⟨#[], #[], []⟩) wArgs rfl (by kernel_rfl) (by kernel_rfl) (by kernel_rfl)
      (OpenSpec.preRow_of_cond 8 hx (by kernel_rfl) (fun k hk => by cases hk) (by kernel_rfl) (laidMet_of_run' 8 (by kernel_rfl) (by kernel_rfl)))) ?_
  intro W base args ds gs before hval hW _ _ _ hL _ _
  exact contract H enc W base args ds gs before hval hW

theorem said : Rows.KnowsLockedSaid :=
  OpenClaim.holds_of_cond 6 Try.f6 rfl rfl rfl rfl rfl rfl rfl ⟨rfl, rfl, rfl, rfl, rfl⟩ rfl rfl rfl rfl rfl (by kernel_rfl) Try.func6 (by kernel_rfl)
    (of_decide_eq_true (by kernel_rfl)) (by unfold Func.isWrapper; first | (rw [if_pos (by decide +kernel)]; kernel_rfl) | (rw [if_neg (by decide +kernel)]; exact ⟨rfl, rfl⟩))
    (fun os started H enc _ F => by rw [OpenClaim.pre_eq_preRow]; exact lifted os started H enc F)
end Go.Proofs.Ytcnnogimaikicaa.knowsLocked
