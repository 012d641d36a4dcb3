/- signetkeep.PatternBack: it returns true for every input, and its arguments read behind the call as they did. No condition beside those of the given row. -/
import Derived.Test.YtcnnogimaikicaaDoorTrdO
import Derived.Test.YtcnnogimaikicaaDoorStrT
import Derived.Test.YtcnnogimaikicaaDoorShelf
import Derived.Test.YtcnnogimaikicaaDoorCards
import Derived.Test.YtcnnogimaikicaaDoorTie

set_option linter.unusedSimpArgs false
set_option linter.unusedVariables false
namespace Go.Proofs.YtcnnogimaikicaaDoor.patternBack
open Go Go.V Go.ChangeShapes Go.WideShapes Go.RowKit
set_option maxRecDepth 100000
theorem own : ownKnob Tryd.prog.godebug = none := by kernel_rfl
theorem laidOut : laidOutB Tryd.prog = true := by kernel_rfl
theorem und3 : Tryd.prog.underlying 3 = some (.int .i64) := by kernel_rfl
theorem cel3 : Tryd.prog.cellsOf 3 = 1 := by kernel_rfl
theorem und4 : Tryd.prog.underlying 4 = some (.bool) := by kernel_rfl
theorem cel4 : Tryd.prog.cellsOf 4 = 1 := by kernel_rfl

theorem und124 : Tryd.prog.underlying 124 = some (.array 16 123) := by kernel_rfl
theorem cel124 : Tryd.prog.cellsOf 124 = 32 := by kernel_rfl
theorem cel123 : Tryd.prog.cellsOf 123 = 2 := by kernel_rfl
noncomputable def flds123 : Array Field := match Tryd.prog.underlying 123 with | some (.struct fs) => fs | _ => #[]
theorem und123 : Tryd.prog.underlying 123 = some (.struct flds123) := by kernel_rfl
theorem fld123_0 : (flds123[0]?).map (fun f => (f.offset, f.type)) = some (0, 5) := by kernel_rfl
theorem und5 : Tryd.prog.underlying 5 = some (.int .u8) := by kernel_rfl
theorem cel5 : Tryd.prog.cellsOf 5 = 1 := by kernel_rfl
theorem fld123_1 : (flds123[1]?).map (fun f => (f.offset, f.type)) = some (1, 5) := by kernel_rfl
theorem gn3 : Tryd.prog.globalNamed "unicode/utf8.acceptRanges" = some 3 := by kernel_rfl
theorem gt3 : (Tryd.prog.globals[3]?).map (·.type) = some 124 := by kernel_rfl
theorem und49 : Tryd.prog.underlying 49 = some (.array 6 9) := by kernel_rfl
theorem cel49 : Tryd.prog.cellsOf 49 = 6 := by kernel_rfl
theorem und9 : Tryd.prog.underlying 9 = some (.string) := by kernel_rfl
theorem cel9 : Tryd.prog.cellsOf 9 = 1 := by kernel_rfl
theorem gn0 : Tryd.prog.globalNamed "signet/signetkeep.bases" = some 0 := by kernel_rfl
theorem gt0 : (Tryd.prog.globals[0]?).map (·.type) = some 49 := by kernel_rfl
theorem und121 : Tryd.prog.underlying 121 = some (.array 256 5) := by kernel_rfl
theorem cel121 : Tryd.prog.cellsOf 121 = 256 := by kernel_rfl
theorem gn2 : Tryd.prog.globalNamed "unicode/utf8.first" = some 2 := by kernel_rfl
theorem gt2 : (Tryd.prog.globals[2]?).map (·.type) = some 121 := by kernel_rfl
theorem globs {W : World} (h : laidMetH Tryd.prog Rows.patternBackRow.laid W) (hs : W.ShapedOpen Tryd.prog) : ∀ n c, Tryd.E.g n = some c → ∃ vs, GL (I0 W) W c vs ∧ Lies (I0 W) W n 0 vs := by
  intro n c hg
  have hm : laidMet Tryd.prog [("signet/signetkeep.bases", strData [[78, 78], [78, 75], [88, 88], [73, 75], [88, 75], [75, 75]])] W := laidMetH.filter (fun x => x.1 == "signet/signetkeep.bases") h
  have hg2 : (bif n == 0 then some (([[78, 78], [78, 75], [88, 88], [73, 75], [88, 75], [75, 75]] : List (List UInt8)).map AV.str) else bif n == 1 then some [AV.any] else none) = some c := hg
  cases hb : n == 0 with
  | true =>
    rw [hb, cond_true, Option.some.injEq] at hg2
    obtain rfl : n = 0 := by simpa using hb
    subst hg2
    exact glob_strs gn0 gt0 und49 und9 cel9 cel49 hm rfl
  | false =>
    rw [hb, cond_false] at hg2
    cases hb1 : n == 1 with
    | true =>
      rw [hb1, cond_true, Option.some.injEq] at hg2
      obtain rfl : n = 1 := by simpa using hb1
      subst hg2
      exact glob_num (Tryd.laysM143.s1_3 W hs)
    | false => rw [hb1, cond_false] at hg2; simp at hg2

theorem contract (H : Type) (enc : TypeId × Value → H) (W : World) (base : Nat) (args : Array Value) (ds gs : List (DataW H)) (before : List MemPlace)
    (hval : ∀ (j : Nat) t v, Tryd.f6.params[j]? = some t → args[j]? = some v → Value.okWide Tryd.prog W .any base t v)
    (hW : DataW.Whole enc Tryd.prog Tryd.f6.params.toList Rows.patternBackSpec.vars false W args.toList ds gs before) (hL : laidMetH Tryd.prog Rows.patternBackRow.laid W) (hS : W.ShapedOpen Tryd.prog) :
    Calls Tryd.prog 6 args W fun e W' => ∃ v, e = .returned v ∧ Rows.patternBackSpec.post enc Tryd.prog Tryd.f6 false true false false W args v W' := by
  have hW' := hW
  obtain ⟨p, q, hA0, hV, rfl, hfz, hnd⟩ := hW
  have hA : DataW.TrodAll enc Tryd.prog W 0 (fun _ => true) true Tryd.f6.params.toList args.toList ds p := hA0
  rw [Tryd.params6] at hA hval
  obtain ⟨v0, vs0, d0, ds0, p0, q0, e0, rfl, rfl, h0, r0⟩ := trodAll_cons hA
  obtain ⟨v1, vs1, d1, ds1, p1, q1, e1, rfl, rfl, h1, r1⟩ := trodAll_cons r0
  subst e1
  obtain ⟨rfl, rfl, rfl⟩ := trodAll_nil r1
  obtain rfl : args = #[v0, v1] := by cases args; simp_all
  obtain ⟨rfl, rfl⟩ := trodVars_none hV
  obtain ⟨x0, n0, a0⟩ := open_i64 und3 (hval 0 3 v0 rfl rfl) h0
  obtain ⟨x1, n1, a1⟩ := open_i64 und3 (hval 1 3 v1 rfl rfl) h1
  have hb := calls_of_law (args := #[v0, v1]) (base_conc (globs (W := W) hL hS)) (RV_cons.2 ⟨_, _, rfl, a0 _ _ _, (RV_cons.2 ⟨_, _, rfl, a1 _ _ _, RV_nil.2 rfl⟩)⟩) (patternBack_c x0 n0 x1 n1)
  refine hb.mono ?_
  rintro e W' ⟨rfl, hbel⟩
  exact ⟨_, rfl, post_of_true hW' rfl rfl rfl und4 laidOut (by rw [Tryd.params6]; exact of_decide_eq_true (by kernel_rfl)) hbel⟩

def wArgs : Array Value := #[Value.int .i64 0, Value.int .i64 0]
noncomputable def laidWorld (os : Os) : World :=
  { World.holding Tryd.prog os ⟨#[], #[], []⟩ with heap := ((((World.holding Tryd.prog os ⟨#[], #[], []⟩).heap.modify 3 (fun | .cells _ t frozen => .cells #[.int .u8 128, .int .u8 191, .int .u8 160, .int .u8 191, .int .u8 128, .int .u8 159, .int .u8 144, .int .u8 191, .int .u8 128, .int .u8 143, .int .u8 0, .int .u8 0, .int .u8 0, .int .u8 0, .int .u8 0, .int .u8 0, .int .u8 0, .int .u8 0, .int .u8 0, .int .u8 0, .int .u8 0, .int .u8 0, .int .u8 0, .int .u8 0, .int .u8 0, .int .u8 0, .int .u8 0, .int .u8 0, .int .u8 0, .int .u8 0, .int .u8 0, .int .u8 0] t frozen | o => o)).modify 0 (fun | .cells _ t frozen => .cells #[.string ⟨#[78, 78]⟩, .string ⟨#[78, 75]⟩, .string ⟨#[88, 88]⟩, .string ⟨#[73, 75]⟩, .string ⟨#[88, 75]⟩, .string ⟨#[75, 75]⟩] t frozen | o => o)).modify 2 (fun | .cells _ t frozen => .cells (Go.Pinned.utf8FirstZ.map fun (z : Nat) => Value.int .u8 (Int.ofNat z)).toArray t frozen | o => o)) }
theorem laid_met (os : Os) : laidMet Tryd.prog Rows.patternBackRow.laid ((laidWorld os).forCall (fun _ _ => 0) ⟨#[], wArgs, []⟩).memory :=
  laidMet_of_run' 8 (by kernel_rfl) (by kernel_rfl)
theorem reads (os : Os) {H : Type} (enc : TypeId × Value → H) : ∃ places, DataW.whole enc Tryd.prog ((laidWorld os).forCall (fun _ _ => 0) ⟨#[], wArgs, []⟩).memory Tryd.f6.params.toList Rows.patternBackSpec.vars false wArgs.toList 8 = some ([.lit (.int .i64 0), .lit (.int .i64 0)], [], places) :=
  ⟨[], by kernel_rfl⟩

set_option maxRecDepth 100000 in
theorem lifted (os : Os) (started : os.Started) (H : Type) (enc : TypeId × Value → H) (F : Stop.Interp) :
    ReturnsInHanded {} Tryd.checked os 6 .any ((OpenSpec.ofChange Rows.patternBackSpec).preRow enc Tryd.prog Tryd.f6 Rows.patternBackRow.domain false Rows.patternBackRow.laid) (((OpenSpec.ofChange Rows.patternBackSpec).at F).post enc Tryd.prog Tryd.f6 false true false false) := by
  obtain ⟨places, hx⟩ := reads os enc
  refine returnsInHanded_of_row (C := Tryd.checked) (s := OpenSpec.ofChange Rows.patternBackSpec) own started (by kernel_rfl) Tryd.func6
    (witness_row_at (enc := enc) (C := Tryd.checked) false (laidWorld os) wArgs rfl (by kernel_rfl) (by kernel_rfl) (by kernel_rfl)
      (OpenSpec.preRow_of_cond 8 hx (by kernel_rfl) (fun k hk => by cases hk) (by kernel_rfl) (laid_met os))) ?_
  intro W base args ds gs before hval hW _ _ _ hL hS _
  exact contract H enc W base args ds gs before hval hW hL hS

theorem said : Rows.PatternBackSaid :=
  OpenClaim.holds_of_cond 6 Tryd.f6 rfl rfl rfl rfl rfl rfl rfl ⟨rfl, rfl, rfl, rfl, rfl⟩ rfl rfl rfl rfl rfl (by kernel_rfl) Tryd.func6 (by kernel_rfl)
    (of_decide_eq_true (by kernel_rfl)) (by unfold Func.isWrapper; first | (rw [if_pos (by decide +kernel)]; kernel_rfl) | (rw [if_neg (by decide +kernel)]; exact ⟨rfl, rfl⟩))
    (fun os started H enc _ F => by rw [OpenClaim.pre_eq_preRow]; exact lifted os started H enc F)

theorem plain (f : FuncId) (fn : Func) (hf : Tryd.pinned.checked.prog.funcNamed "signet/signetkeep.PatternBack" = some f) (hfn : Tryd.pinned.checked.prog.funcs[f]? = some fn) :
    false = Tryd.pinned.checked.prog.looks [] ∧ ∀ (j : Nat) t, fn.params[j]? = some t → Tryd.pinned.checked.prog.wantsStandIn t = false := by
  obtain rfl : f = 6 := Option.some.inj ((show Tryd.prog.funcNamed "signet/signetkeep.PatternBack" = some 6 by kernel_rfl).symm.trans hf) |>.symm
  obtain rfl : fn = Tryd.f6 := (Option.some.inj (Tryd.func6.symm.trans hfn)).symm
  refine ⟨by kernel_rfl, fun j t ht => ?_⟩
  have all : Tryd.f6.params.all (fun t => !Tryd.pinned.checked.prog.wantsStandIn t) = true := by kernel_rfl
  have := Array.all_eq_true_iff_forall_mem.1 all t (Array.mem_of_getElem? ht)
  simpa using this

theorem card : Rows.PatternBackCardSaid :=
  Claim7.holds_tied_plain_at .later [] _ _ _ _ said (fun _ h => by cases h) (by kernel_rfl) (fun _ h => by cases h) patternBack_row_tie rfl ⟨rfl, rfl⟩ (by kernel_rfl) rfl plain (by kernel_rfl)
end Go.Proofs.YtcnnogimaikicaaDoor.patternBack
