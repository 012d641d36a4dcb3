/- signetkeep.SymAlike: it returns true for every input, and its arguments read behind the call as they did. No condition beside those of the given row. -/
import Derived.Test.YtdipeoacmapehaaDoorZzal
import Derived.Test.YtdipeoacmapehaaDoorZzaj
import Derived.Test.YtdipeoacmapehaaDoorCards
import Derived.Test.YtdipeoacmapehaaDoorTie

set_option linter.unusedSimpArgs false
set_option linter.unusedVariables false
namespace Go.Proofs.YtdipeoacmapehaaDoor.symAlike
open Go Go.V Go.ChangeShapes Go.WideShapes Go.RowKit
set_option maxRecDepth 100000
theorem own : ownKnob Tryd.prog.godebug = none := by kernel_rfl
theorem laidOut : laidOutB Tryd.prog = true := by kernel_rfl
theorem und9 : Tryd.prog.underlying 9 = some (.string) := by kernel_rfl
theorem cel9 : Tryd.prog.cellsOf 9 = 1 := by kernel_rfl
theorem und43 : Tryd.prog.underlying 43 = some (.slice 53) := by kernel_rfl
theorem cel43 : Tryd.prog.cellsOf 43 = 1 := by kernel_rfl
theorem cel53 : Tryd.prog.cellsOf 53 = 4 := by kernel_rfl
noncomputable def flds53 : Array Field := match Tryd.prog.underlying 53 with | some (.struct fs) => fs | _ => #[]
theorem und53 : Tryd.prog.underlying 53 = some (.struct flds53) := by kernel_rfl
theorem fld53_0 : (flds53[0]?).map (fun f => (f.offset, f.type)) = some (0, 3) := by kernel_rfl
theorem und3 : Tryd.prog.underlying 3 = some (.int .i64) := by kernel_rfl
theorem cel3 : Tryd.prog.cellsOf 3 = 1 := by kernel_rfl
theorem fld53_1 : (flds53[1]?).map (fun f => (f.offset, f.type)) = some (1, 3) := by kernel_rfl
theorem fld53_2 : (flds53[2]?).map (fun f => (f.offset, f.type)) = some (2, 3) := by kernel_rfl
theorem fld53_3 : (flds53[3]?).map (fun f => (f.offset, f.type)) = some (3, 9) := by kernel_rfl
theorem und4 : Tryd.prog.underlying 4 = some (.bool) := by kernel_rfl
theorem cel4 : Tryd.prog.cellsOf 4 = 1 := by kernel_rfl

theorem und25 : Tryd.prog.underlying 25 = some (.array 8 24) := by kernel_rfl
theorem cel25 : Tryd.prog.cellsOf 25 = 8 := by kernel_rfl
theorem und24 : Tryd.prog.underlying 24 = some (.int .u32) := by kernel_rfl
theorem cel24 : Tryd.prog.cellsOf 24 = 1 := by kernel_rfl
theorem gn0 : Tryd.prog.globalNamed "signet/blake.first" = some 0 := by kernel_rfl
theorem gt0 : (Tryd.prog.globals[0]?).map (·.type) = some 25 := by kernel_rfl
theorem und74 : Tryd.prog.underlying 74 = some (.array 10 73) := by kernel_rfl
theorem cel74 : Tryd.prog.cellsOf 74 = 160 := by kernel_rfl
theorem und73 : Tryd.prog.underlying 73 = some (.array 16 3) := by kernel_rfl
theorem cel73 : Tryd.prog.cellsOf 73 = 16 := by kernel_rfl
theorem gn1 : Tryd.prog.globalNamed "signet/blake.orders" = some 1 := by kernel_rfl
theorem gt1 : (Tryd.prog.globals[1]?).map (·.type) = some 74 := by kernel_rfl
theorem globs {W : World} (h : laidMetH Tryd.prog Rows.symAlikeRow.laid W) : ∀ n c, Tryd.E.g n = some c → ∃ vs, RL noR (I0 W) W c vs ∧ Lies (I0 W) W n 0 vs := by
  intro n c hg
  have ht : Lib.TabIs Tryd.prog W "signet/blake.first" .u32 [1779033703, 3144134277, 1013904242, 2773480762, 1359893119, 2600822924, 528734635, 1541459225] := Lib.tabIs_of_head gn0 gt0 und25 und24 cel24 cel25 h
  have ht2 : Lib.TabIs Tryd.prog W "signet/blake.orders" .i64 ([[0, 1, 2, 3, 4, 5, 6, 7, 8, 9, 10, 11, 12, 13, 14, 15], [14, 10, 4, 8, 9, 15, 13, 6, 1, 12, 0, 2, 11, 7, 5, 3], [11, 8, 12, 0, 5, 2, 15, 13, 10, 14, 3, 6, 7, 1, 9, 4], [7, 9, 3, 1, 13, 12, 11, 14, 2, 6, 5, 10, 4, 0, 15, 8], [9, 0, 5, 7, 2, 4, 10, 15, 14, 1, 11, 12, 6, 8, 3, 13], [2, 12, 6, 10, 0, 11, 8, 3, 4, 13, 7, 5, 15, 14, 1, 9], [12, 5, 1, 15, 14, 13, 4, 10, 0, 7, 6, 3, 9, 2, 8, 11], [13, 11, 7, 14, 12, 1, 3, 9, 5, 0, 15, 4, 8, 6, 2, 10], [6, 15, 14, 9, 11, 3, 0, 8, 12, 2, 13, 7, 1, 4, 10, 5], [10, 2, 8, 4, 7, 6, 1, 5, 15, 11, 9, 14, 3, 12, 13, 0]] : List (List Int)).flatten := tab2_of_second (rest := []) gn1 gt1 (by decide) und74 und73 und3 cel3 cel73 cel74 (by decide) h
  have hg2 : (bif n == 0 then _ else bif n == 1 then _ else none) = some c := hg
  cases hb : n == 0 with
  | true =>
    rw [hb, cond_true, Option.some.injEq] at hg2
    obtain rfl : n = 0 := by simpa using hb
    subst hg2
    exact glob_row gn0 ht (fun ρ I w => ⟨_, [], (List.append_nil _).symm, ⟨rfl, rfl⟩, rfl⟩)
  | false =>
    rw [hb, cond_false] at hg2
    cases hb1 : n == 1 with
    | true =>
      rw [hb1, cond_true, Option.some.injEq] at hg2
      obtain rfl : n = 1 := by simpa using hb1
      subst hg2
      exact glob_row gn1 ht2 (fun ρ I w => ⟨_, [], (List.append_nil _).symm, ⟨rfl, rfl⟩, rfl⟩)
    | false => rw [hb1, cond_false] at hg2; simp at hg2

theorem contract (H : Type) (enc : TypeId × Value → H) (W : World) (base : Nat) (args : Array Value) (ds gs : List (DataW H)) (before : List MemPlace)
    (hval : ∀ (j : Nat) t v, Tryd.f5.params[j]? = some t → args[j]? = some v → Value.okWide Tryd.prog W .any base t v)
    (hW : DataW.Whole enc Tryd.prog Tryd.f5.params.toList Rows.symAlikeSpec.vars false W args.toList ds gs before) (hL : laidMetH Tryd.prog Rows.symAlikeRow.laid W) :
    Calls Tryd.prog 5 args W fun e W' => ∃ v, e = .returned v ∧ Rows.symAlikeSpec.post enc Tryd.prog Tryd.f5 false true false false W args v W' := by
  have hW' := hW
  obtain ⟨p, q, hA0, hV, rfl, hfz, hnd⟩ := hW
  have hA : DataW.TrodAll enc Tryd.prog W 0 (fun _ => true) true Tryd.f5.params.toList args.toList ds p := hA0
  rw [Tryd.params5] at hA hval
  obtain ⟨v0, vs0, d0, ds0, p0, q0, e0, rfl, rfl, h0, r0⟩ := trodAll_cons hA
  obtain ⟨v1, vs1, d1, ds1, p1, q1, e1, rfl, rfl, h1, r1⟩ := trodAll_cons r0
  subst e1
  obtain ⟨rfl, rfl, rfl⟩ := trodAll_nil r1
  obtain rfl : args = #[v0, v1] := by cases args; simp_all
  obtain ⟨rfl, rfl⟩ := trodVars_none hV
  obtain ⟨x0, n0, a0⟩ := open_str und9 (hval 0 9 v0 rfl rfl) h0
  obtain ⟨x1, n1, a1⟩ := open_rawsR und43 und53 fld53_0 fld53_1 fld53_2 fld53_3 und3 und9 cel3 cel9 cel53 (hval 1 43 v1 rfl rfl) h1
  have hb := calls_of_law (args := #[v0, v1]) (base_conc (globs (W := W) hL)) (RV_cons.2 ⟨_, _, rfl, a0 _ _ _, (RV_cons.2 ⟨_, _, rfl, a1, RV_nil.2 rfl⟩)⟩) (symAlike_c x0 n0 x1 n1)
  refine hb.mono ?_
  rintro e W' ⟨rfl, hbel⟩
  exact ⟨_, rfl, post_of_true hW' rfl rfl rfl und4 laidOut (by rw [Tryd.params5]; exact of_decide_eq_true (by kernel_rfl)) hbel⟩

def wArgs : Array Value := #[Value.string ⟨#[]⟩, Value.slice none 0 0]
noncomputable def laidWorld (os : Os) : World :=
  { World.holding Tryd.prog os ⟨#[], #[], []⟩ with heap := ((World.holding Tryd.prog os ⟨#[], #[], []⟩).heap.modify 0 (fun | .cells _ t frozen => .cells #[.int .u32 1779033703, .int .u32 3144134277, .int .u32 1013904242, .int .u32 2773480762, .int .u32 1359893119, .int .u32 2600822924, .int .u32 528734635, .int .u32 1541459225] t frozen | o => o)).modify 1 fun
      | .cells _ t frozen => .cells #[.int .i64 0, .int .i64 1, .int .i64 2, .int .i64 3, .int .i64 4, .int .i64 5, .int .i64 6, .int .i64 7, .int .i64 8, .int .i64 9, .int .i64 10, .int .i64 11, .int .i64 12, .int .i64 13, .int .i64 14, .int .i64 15, .int .i64 14, .int .i64 10, .int .i64 4, .int .i64 8, .int .i64 9, .int .i64 15, .int .i64 13, .int .i64 6, .int .i64 1, .int .i64 12, .int .i64 0, .int .i64 2, .int .i64 11, .int .i64 7, .int .i64 5, .int .i64 3, .int .i64 11, .int .i64 8, .int .i64 12, .int .i64 0, .int .i64 5, .int .i64 2, .int .i64 15, .int .i64 13, .int .i64 10, .int .i64 14, .int .i64 3, .int .i64 6, .int .i64 7, .int .i64 1, .int .i64 9, .int .i64 4, .int .i64 7, .int .i64 9, .int .i64 3, .int .i64 1, .int .i64 13, .int .i64 12, .int .i64 11, .int .i64 14, .int .i64 2, .int .i64 6, .int .i64 5, .int .i64 10, .int .i64 4, .int .i64 0, .int .i64 15, .int .i64 8, .int .i64 9, .int .i64 0, .int .i64 5, .int .i64 7, .int .i64 2, .int .i64 4, .int .i64 10, .int .i64 15, .int .i64 14, .int .i64 1, .int .i64 11, .int .i64 12, .int .i64 6, .int .i64 8, .int .i64 3, .int .i64 13, .int .i64 2, .int .i64 12, .int .i64 6, .int .i64 10, .int .i64 0, .int .i64 11, .int .i64 8, .int .i64 3, .int .i64 4, .int .i64 13, .int .i64 7, .int .i64 5, .int .i64 15, .int .i64 14, .int .i64 1, .int .i64 9, .int .i64 12, .int .i64 5, .int .i64 1, .int .i64 15, .int .i64 14, .int .i64 13, .int .i64 4, .int .i64 10, .int .i64 0, .int .i64 7, .int .i64 6, .int .i64 3, .int .i64 9, .int .i64 2, .int .i64 8, .int .i64 11, .int .i64 13, .int .i64 11, .int .i64 7, .int .i64 14, .int .i64 12, .int .i64 1, .int .i64 3, .int .i64 9, .int .i64 5, .int .i64 0, .int .i64 15, .int .i64 4, .int .i64 8, .int .i64 6, .int .i64 2, .int .i64 10, .int .i64 6, .int .i64 15, .int .i64 14, .int .i64 9, .int .i64 11, .int .i64 3, .int .i64 0, .int .i64 8, .int .i64 12, .int .i64 2, .int .i64 13, .int .i64 7, .int .i64 1, .int .i64 4, .int .i64 10, .int .i64 5, .int .i64 10, .int .i64 2, .int .i64 8, .int .i64 4, .int .i64 7, .int .i64 6, .int .i64 1, .int .i64 5, .int .i64 15, .int .i64 11, .int .i64 9, .int .i64 14, .int .i64 3, .int .i64 12, .int .i64 13, .int .i64 0] t frozen
      | o => o }
theorem laid_met (os : Os) : laidMet Tryd.prog Rows.symAlikeRow.laid ((laidWorld os).forCall (fun _ _ => 0) ⟨#[], wArgs, []⟩).memory :=
  laidMet_of_run' 8 (by kernel_rfl) (by kernel_rfl)
theorem reads (os : Os) {H : Type} (enc : TypeId × Value → H) : ∃ places, DataW.whole enc Tryd.prog ((laidWorld os).forCall (fun _ _ => 0) ⟨#[], wArgs, []⟩).memory Tryd.f5.params.toList Rows.symAlikeSpec.vars false wArgs.toList 8 = some ([.lit (.string []), .nil], [], places) :=
  ⟨[], by kernel_rfl⟩

set_option maxRecDepth 100000 in
theorem lifted (os : Os) (started : os.Started) (H : Type) (enc : TypeId × Value → H) (F : Stop.Interp) :
    ReturnsInHanded {} Tryd.checked os 5 .any ((OpenSpec.ofChange Rows.symAlikeSpec).preRow enc Tryd.prog Tryd.f5 Rows.symAlikeRow.domain false Rows.symAlikeRow.laid) (((OpenSpec.ofChange Rows.symAlikeSpec).at F).post enc Tryd.prog Tryd.f5 false true false false) := by
  obtain ⟨places, hx⟩ := reads os enc
  refine returnsInHanded_of_row (C := Tryd.checked) (s := OpenSpec.ofChange Rows.symAlikeSpec) own started (by kernel_rfl) Tryd.func5
    (witness_row_at (enc := enc) (C := Tryd.checked) false (laidWorld os) wArgs rfl (by kernel_rfl) (by kernel_rfl) (by kernel_rfl)
      (OpenSpec.preRow_of_cond 8 hx (by kernel_rfl) (fun k hk => by cases hk) (by kernel_rfl) (laid_met os))) ?_
  intro W base args ds gs before hval hW _ _ _ hL _ _
  exact contract H enc W base args ds gs before hval hW hL

theorem said : Rows.SymAlikeSaid :=
  OpenClaim.holds_of_cond 5 Tryd.f5 rfl rfl rfl rfl rfl rfl rfl ⟨rfl, rfl, rfl, rfl, rfl⟩ rfl rfl rfl rfl rfl (by kernel_rfl) Tryd.func5 (by kernel_rfl)
    (of_decide_eq_true (by kernel_rfl)) (by unfold Func.isWrapper; first | (rw [if_pos (by decide +kernel)]; kernel_rfl) | (rw [if_neg (by decide +kernel)]; exact ⟨rfl, rfl⟩))
    (fun os started H enc _ F => by rw [OpenClaim.pre_eq_preRow]; exact lifted os started H enc F)

theorem plain (f : FuncId) (fn : Func) (hf : Tryd.pinned.checked.prog.funcNamed "signet/signetkeep.SymAlike" = some f) (hfn : Tryd.pinned.checked.prog.funcs[f]? = some fn) :
    false = Tryd.pinned.checked.prog.looks [] ∧ ∀ (j : Nat) t, fn.params[j]? = some t → Tryd.pinned.checked.prog.wantsStandIn t = false := by
  obtain rfl : f = 5 := Option.some.inj ((show Tryd.prog.funcNamed "signet/signetkeep.SymAlike" = some 5 by kernel_rfl).symm.trans hf) |>.symm
  obtain rfl : fn = Tryd.f5 := (Option.some.inj (Tryd.func5.symm.trans hfn)).symm
  refine ⟨by kernel_rfl, fun j t ht => ?_⟩
  have all : Tryd.f5.params.all (fun t => !Tryd.pinned.checked.prog.wantsStandIn t) = true := by kernel_rfl
  have := Array.all_eq_true_iff_forall_mem.1 all t (Array.mem_of_getElem? ht)
  simpa using this

theorem card : Rows.SymAlikeCardSaid :=
  Claim7.holds_tied_plain_at .later [] _ _ _ _ said (fun _ h => by cases h) (by kernel_rfl) (fun _ h => by cases h) symAlike_row_tie rfl ⟨rfl, rfl⟩ (by kernel_rfl) rfl plain (by kernel_rfl)
end Go.Proofs.YtdipeoacmapehaaDoor.symAlike
