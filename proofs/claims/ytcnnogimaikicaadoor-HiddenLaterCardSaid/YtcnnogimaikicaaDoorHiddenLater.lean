/- signetkeep.HiddenLater: it returns true for every input, and its arguments read behind the call as they did. No condition beside those of the given row. -/
import Derived.Test.YtcnnogimaikicaaDoorZzal
import Derived.Test.YtcnnogimaikicaaDoorZzam
import Derived.Test.YtcnnogimaikicaaDoorZzan
import Derived.Test.YtcnnogimaikicaaDoorCards
import Derived.Test.YtcnnogimaikicaaDoorTie

set_option linter.unusedSimpArgs false
set_option linter.unusedVariables false
namespace Go.Proofs.YtcnnogimaikicaaDoor.hiddenLater
open Go Go.V Go.ChangeShapes Go.WideShapes Go.RowKit
set_option maxRecDepth 100000
theorem own : ownKnob Tryd.prog.godebug = none := by kernel_rfl
theorem laidOut : laidOutB Tryd.prog = true := by kernel_rfl
theorem und3 : Tryd.prog.underlying 3 = some (.int .i64) := by kernel_rfl
theorem cel3 : Tryd.prog.cellsOf 3 = 1 := by kernel_rfl
theorem und4 : Tryd.prog.underlying 4 = some (.bool) := by kernel_rfl
theorem cel4 : Tryd.prog.cellsOf 4 = 1 := by kernel_rfl
theorem und49 : Tryd.prog.underlying 49 = some (.array 6 9) := by kernel_rfl
theorem cel49 : Tryd.prog.cellsOf 49 = 6 := by kernel_rfl
theorem und9 : Tryd.prog.underlying 9 = some (.string) := by kernel_rfl
theorem cel9 : Tryd.prog.cellsOf 9 = 1 := by kernel_rfl
theorem gn0 : Tryd.prog.globalNamed "signet/signetkeep.bases" = some 0 := by kernel_rfl
theorem gt0 : (Tryd.prog.globals[0]?).map (·.type) = some 49 := by kernel_rfl
theorem globs {W : World} (h : laidMetH Tryd.prog Rows.hiddenLaterRow.laid W) (hs : W.ShapedOpen Tryd.prog) : ∀ n c, Tryd.E.g n = some c → ∃ vs, GL (I0 W) W c vs ∧ Lies (I0 W) W n 0 vs := by
 intro n c hg
 have hm : laidMet Tryd.prog [("signet/signetkeep.bases", strData [[78, 78], [78, 75], [88, 88], [73, 75], [88, 75], [75, 75]])] W := h
 have hg2 : (bif n == 0 then some (([[78, 78], [78, 75], [88, 88], [73, 75], [88, 75], [75, 75]] : List (List UInt8)).map AV.str) else bif n == 1 then some [AV.any] else none) = some c := hg
 cases hb : n == 0 with
 | true =>
  rw [hb, cond_true, Option.some.injEq] at hg2
  obtain rfl : n = 0 := by simpa using hb
  subst hg2
  exact glob_strs gn0 gt0 und49 und9 cel9 cel49 hm rfl
 | false =>
  rw [hb, cond_false] at hg2
  cases hb1 : n == 1 with
  | true =>
   rw [hb1, cond_true, Option.some.injEq] at hg2
   obtain rfl : n = 1 := by simpa using hb1
   subst hg2
   exact glob_num (Tryd.laysM143.s1_3 W hs)
  | false => rw [hb1, cond_false] at hg2; simp at hg2
theorem contract (H : Type) (enc : TypeId × Value → H) (W : World) (base : Nat) (args : Array Value) (ds gs : List (DataW H)) (before : List MemPlace)
  (hval : ∀ (j : Nat) t v, Tryd.f5.params[j]? = some t → args[j]? = some v → Value.okWide Tryd.prog W .any base t v)
  (hW : DataW.Whole enc Tryd.prog Tryd.f5.params.toList Rows.hiddenLaterSpec.vars false W args.toList ds gs before) (hL : laidMetH Tryd.prog Rows.hiddenLaterRow.laid W) (hS : W.ShapedOpen Tryd.prog) :
  Calls Tryd.prog 5 args W fun e W' => ∃ v, e = .returned v ∧ Rows.hiddenLaterSpec.post enc Tryd.prog Tryd.f5 false true false false W args v W' := by
 have hW' := hW
 obtain ⟨p, q, hA0, hV, rfl, hfz, hnd⟩ := hW
 have hA : DataW.TrodAll enc Tryd.prog W 0 (fun _ => true) true Tryd.f5.params.toList args.toList ds p := hA0
 rw [Tryd.params5] at hA hval
 obtain ⟨v0, vs0, d0, ds0, p0, q0, e0, rfl, rfl, h0, r0⟩ := trodAll_cons hA
 obtain ⟨v1, vs1, d1, ds1, p1, q1, e1, rfl, rfl, h1, r1⟩ := trodAll_cons r0
 subst e1
 obtain ⟨v2, vs2, d2, ds2, p2, q2, e2, rfl, rfl, h2, r2⟩ := trodAll_cons r1
 subst e2
 obtain ⟨v3, vs3, d3, ds3, p3, q3, e3, rfl, rfl, h3, r3⟩ := trodAll_cons r2
 subst e3
 obtain ⟨v4, vs4, d4, ds4, p4, q4, e4, rfl, rfl, h4, r4⟩ := trodAll_cons r3
 subst e4
 obtain ⟨rfl, rfl, rfl⟩ := trodAll_nil r4
 obtain rfl : args = #[v0, v1, v2, v3, v4] := by cases args; simp_all
 obtain ⟨rfl, rfl⟩ := trodVars_none hV
 obtain ⟨x0, n0, a0⟩ := open_i64 und3 (hval 0 3 v0 rfl rfl) h0
 obtain ⟨x1, n1, a1⟩ := open_i64 und3 (hval 1 3 v1 rfl rfl) h1
 obtain ⟨x2, n2, a2⟩ := open_i64 und3 (hval 2 3 v2 rfl rfl) h2
 obtain ⟨x3, n3, a3⟩ := open_i64 und3 (hval 3 3 v3 rfl rfl) h3
 obtain ⟨x4, n4, a4⟩ := open_i64 und3 (hval 4 3 v4 rfl rfl) h4
 have hb := calls_of_law (args := #[v0, v1, v2, v3, v4]) (base_conc (globs (W := W) hL hS)) (RV_cons.2 ⟨_, _, rfl, a0 _ _ _, (RV_cons.2 ⟨_, _, rfl, a1 _ _ _, (RV_cons.2 ⟨_, _, rfl, a2 _ _ _, (RV_cons.2 ⟨_, _, rfl, a3 _ _ _, (RV_cons.2 ⟨_, _, rfl, a4 _ _ _, RV_nil.2 rfl⟩)⟩)⟩)⟩)⟩) (hiddenLater_c x0 n0 x1 n1 x2 n2 x3 n3 x4 n4)
 refine hb.mono ?_
 rintro e W' ⟨rfl, hbel⟩
 exact ⟨_, rfl, post_of_true hW' rfl rfl rfl und4 laidOut (by rw [Tryd.params5]; exact of_decide_eq_true (by kernel_rfl)) hbel⟩
def wArgs : Array Value := #[Value.int .i64 0, Value.int .i64 0, Value.int .i64 0, Value.int .i64 0, Value.int .i64 0]
noncomputable def laidWorld (os : Os) : World :=
 { World.holding Tryd.prog os ⟨#[], #[], []⟩ with heap := ((World.holding Tryd.prog os ⟨#[], #[], []⟩).heap.modify 0 (fun | .cells _ t frozen => .cells #[.string ⟨#[78, 78]⟩, .string ⟨#[78, 75]⟩, .string ⟨#[88, 88]⟩, .string ⟨#[73, 75]⟩, .string ⟨#[88, 75]⟩, .string ⟨#[75, 75]⟩] t frozen | o => o)) }
theorem laid_met (os : Os) : laidMet Tryd.prog Rows.hiddenLaterRow.laid ((laidWorld os).forCall (fun _ _ => 0) ⟨#[], wArgs, []⟩).memory :=
 laidMet_of_run' 8 (by kernel_rfl) (by kernel_rfl)
theorem reads (os : Os) {H : Type} (enc : TypeId × Value → H) : ∃ places, DataW.whole enc Tryd.prog ((laidWorld os).forCall (fun _ _ => 0) ⟨#[], wArgs, []⟩).memory Tryd.f5.params.toList Rows.hiddenLaterSpec.vars false wArgs.toList 8 = some ([.lit (.int .i64 0), .lit (.int .i64 0), .lit (.int .i64 0), .lit (.int .i64 0), .lit (.int .i64 0)], [], places) :=
 ⟨[], by kernel_rfl⟩
set_option maxRecDepth 100000 in
theorem lifted (os : Os) (started : os.Started) (H : Type) (enc : TypeId × Value → H) (F : Stop.Interp) :
  ReturnsInHanded {} Tryd.checked os 5 .any ((OpenSpec.ofChange Rows.hiddenLaterSpec).preRow enc Tryd.prog Tryd.f5 Rows.hiddenLaterRow.domain false Rows.hiddenLaterRow.laid) (((OpenSpec.ofChange Rows.hiddenLaterSpec).at F).post enc Tryd.prog Tryd.f5 false true false false) := by
 obtain ⟨places, hx⟩ := reads os enc
 refine returnsInHanded_of_row (C := Tryd.checked) (s := OpenSpec.ofChange Rows.hiddenLaterSpec) own started (by kernel_rfl) Tryd.func5
  (witness_row_at (enc := enc) (C := Tryd.checked) false (laidWorld os) wArgs rfl (by kernel_rfl) (by kernel_rfl) (by kernel_rfl)
   (OpenSpec.preRow_of_cond 8 hx (by kernel_rfl) (fun k hk => by cases hk) (by kernel_rfl) (laid_met os))) ?_
 intro W base args ds gs before hval hW _ _ _ hL hS _
 exact contract H enc W base args ds gs before hval hW hL hS
theorem said : Rows.HiddenLaterSaid :=
 OpenClaim.holds_of_cond 5 Tryd.f5 rfl rfl rfl rfl rfl rfl rfl ⟨rfl, rfl, rfl, rfl, rfl⟩ rfl rfl rfl rfl rfl (by kernel_rfl) Tryd.func5 (by kernel_rfl)
  (of_decide_eq_true (by kernel_rfl)) (by unfold Func.isWrapper; first | (rw [if_pos (by decide +kernel)]; kernel_rfl) | (rw [if_neg (by decide +kernel)]; exact ⟨rfl, rfl⟩))
  (fun os started H enc _ F => by rw [OpenClaim.pre_eq_preRow]; exact lifted os started H enc F)
theorem plain (f : FuncId) (fn : Func) (hf : Tryd.pinned.checked.prog.funcNamed "signet/signetkeep.HiddenLater" = some f) (hfn : Tryd.pinned.checked.prog.funcs[f]? = some fn) :
  false = Tryd.pinned.checked.prog.looks [] ∧ ∀ (j : Nat) t, fn.params[j]? = some t → Tryd.pinned.checked.prog.wantsStandIn t = false := by
 obtain rfl : f = 5 := Option.some.inj ((show Tryd.prog.funcNamed "signet/signetkeep.HiddenLater" = some 5 by kernel_rfl).symm.trans hf) |>.symm
 obtain rfl : fn = Tryd.f5 := (Option.some.inj (Tryd.func5.symm.trans hfn)).symm
 refine ⟨by kernel_rfl, fun j t ht => ?_⟩
 have all : Tryd.f5.params.all (fun t => !Tryd.pinned.checked.prog.wantsStandIn t) = true := by kernel_rfl
 have := Array.all_eq_true_iff_forall_mem.1 all t (Array.mem_of_getElem? ht)
 simpa using this
theorem card : Rows.HiddenLaterCardSaid :=
 Claim7.holds_tied_plain_at .later [] _ _ _ _ said (fun _ h => by cases h) (by kernel_rfl) (fun _ h => by cases h) hiddenLater_row_tie rfl ⟨rfl, rfl⟩ (by kernel_rfl) rfl plain (by kernel_rfl)
end Go.Proofs.YtcnnogimaikicaaDoor.hiddenLater