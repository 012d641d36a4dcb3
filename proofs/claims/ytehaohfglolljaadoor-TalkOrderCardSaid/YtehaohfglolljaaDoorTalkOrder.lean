/- signetkeep.TalkOrder: it returns true for every input, and its arguments read behind the call as they did. No condition beside those of the given row. -/
import Derived.Test.YtehaohfglolljaaDoorZzal
import Derived.Test.YtehaohfglolljaaDoorZzak
import Derived.Test.YtehaohfglolljaaDoorCards
import Derived.Test.YtehaohfglolljaaDoorTie

set_option linter.unusedSimpArgs false
set_option linter.unusedVariables false
namespace Go.Proofs.YtehaohfglolljaaDoor.talkOrder
open Go Go.V Go.ChangeShapes Go.WideShapes Go.RowKit
set_option maxRecDepth 100000
theorem own : ownKnob Tryd.prog.godebug = none := by kernel_rfl
theorem laidOut : laidOutB Tryd.prog = true := by kernel_rfl
theorem und3 : Tryd.prog.underlying 3 = some (.int .i64) := by kernel_rfl
theorem cel3 : Tryd.prog.cellsOf 3 = 1 := by kernel_rfl
theorem und46 : Tryd.prog.underlying 46 = some (.slice 3) := by kernel_rfl
theorem cel46 : Tryd.prog.cellsOf 46 = 1 := by kernel_rfl
theorem und9 : Tryd.prog.underlying 9 = some (.string) := by kernel_rfl
theorem cel9 : Tryd.prog.cellsOf 9 = 1 := by kernel_rfl
theorem und4 : Tryd.prog.underlying 4 = some (.bool) := by kernel_rfl
theorem cel4 : Tryd.prog.cellsOf 4 = 1 := by kernel_rfl
theorem und110 : Tryd.prog.underlying 110 = some (.array 8 70) := by kernel_rfl
theorem cel110 : Tryd.prog.cellsOf 110 = 8 := by kernel_rfl
theorem und70 : Tryd.prog.underlying 70 = some (.int .u32) := by kernel_rfl
theorem cel70 : Tryd.prog.cellsOf 70 = 1 := by kernel_rfl
theorem gn1 : Tryd.prog.globalNamed "signet/blake.first" = some 1 := by kernel_rfl
theorem gt1 : (Tryd.prog.globals[1]?).map (·.type) = some 110 := by kernel_rfl
theorem und149 : Tryd.prog.underlying 149 = some (.array 10 148) := by kernel_rfl
theorem cel149 : Tryd.prog.cellsOf 149 = 160 := by kernel_rfl
theorem und148 : Tryd.prog.underlying 148 = some (.array 16 3) := by kernel_rfl
theorem cel148 : Tryd.prog.cellsOf 148 = 16 := by kernel_rfl
theorem gn2 : Tryd.prog.globalNamed "signet/blake.orders" = some 2 := by kernel_rfl
theorem gt2 : (Tryd.prog.globals[2]?).map (·.type) = some 149 := by kernel_rfl
theorem und85 : Tryd.prog.underlying 85 = some (.array 4 83) := by kernel_rfl
theorem cel85 : Tryd.prog.cellsOf 85 = 4 := by kernel_rfl
theorem und83 : Tryd.prog.underlying 83 = some (.int .u64) := by kernel_rfl
theorem cel83 : Tryd.prog.cellsOf 83 = 1 := by kernel_rfl
theorem gn0 : Tryd.prog.globalNamed "signet/field.prime" = some 0 := by kernel_rfl
theorem gt0 : (Tryd.prog.globals[0]?).map (·.type) = some 85 := by kernel_rfl
theorem globs {W : World} (h : laidMetH Tryd.prog Rows.talkOrderRow.laid W) : ∀ n c, Tryd.E.g n = some c → ∃ vs, GL (I0 W) W c vs ∧ Lies (I0 W) W n 0 vs := by
 intro n c hg
 have hm1 : laidMetH Tryd.prog [("signet/blake.first", Rows.laid_signet_blake_first)] W := laidMetH.filter (fun x => x.1 == "signet/blake.first") h
 have ht1 : Lib.TabIs Tryd.prog W "signet/blake.first" .u32 [1779033703, 3144134277, 1013904242, 2773480762, 1359893119, 2600822924, 528734635, 1541459225] := Lib.tabIs_of_head (rest := []) gn1 gt1 und110 und70 cel70 cel110 hm1
 have hm0 : laidMetH Tryd.prog [("signet/field.prime", Rows.laid_signet_field_prime)] W := laidMetH.filter (fun x => x.1 == "signet/field.prime") h
 have ht0 : Lib.TabIs Tryd.prog W "signet/field.prime" .u64 [18446744073709551597, 18446744073709551615, 18446744073709551615, 9223372036854775807] := Lib.tabIs_of_head (rest := []) gn0 gt0 und85 und83 cel83 cel85 hm0
 have hm2 : laidMetH Tryd.prog [("signet/blake.first", Rows.laid_signet_blake_first), ("signet/blake.orders", Rows.laid_signet_blake_orders)] W := laidMetH.filter (fun x => x.1 == "signet/blake.first" || x.1 == "signet/blake.orders") h
 have ht2 : Lib.TabIs Tryd.prog W "signet/blake.orders" .i64 ([[0, 1, 2, 3, 4, 5, 6, 7, 8, 9, 10, 11, 12, 13, 14, 15], [14, 10, 4, 8, 9, 15, 13, 6, 1, 12, 0, 2, 11, 7, 5, 3], [11, 8, 12, 0, 5, 2, 15, 13, 10, 14, 3, 6, 7, 1, 9, 4], [7, 9, 3, 1, 13, 12, 11, 14, 2, 6, 5, 10, 4, 0, 15, 8], [9, 0, 5, 7, 2, 4, 10, 15, 14, 1, 11, 12, 6, 8, 3, 13], [2, 12, 6, 10, 0, 11, 8, 3, 4, 13, 7, 5, 15, 14, 1, 9], [12, 5, 1, 15, 14, 13, 4, 10, 0, 7, 6, 3, 9, 2, 8, 11], [13, 11, 7, 14, 12, 1, 3, 9, 5, 0, 15, 4, 8, 6, 2, 10], [6, 15, 14, 9, 11, 3, 0, 8, 12, 2, 13, 7, 1, 4, 10, 5], [10, 2, 8, 4, 7, 6, 1, 5, 15, 11, 9, 14, 3, 12, 13, 0]] : List (List Int)).flatten := tab2_of_second (rest := []) gn2 gt2 (by decide) und149 und148 und3 cel3 cel148 cel149 (by decide) hm2
 have hg2 : (bif n == 0 then _ else bif n == 1 then _ else bif n == 2 then _ else none) = some c := hg
 cases hb0 : n == 0 with
 | true =>
  rw [hb0, cond_true, Option.some.injEq] at hg2
  obtain rfl : n = 0 := by simpa using hb0
  subst hg2
  exact glob_row gn0 ht0 (fun ρ I w => ⟨_, [], (List.append_nil _).symm, ⟨rfl, rfl⟩, rfl⟩)
 | false =>
  rw [hb0, cond_false] at hg2
  cases hb1 : n == 1 with
  | true =>
   rw [hb1, cond_true, Option.some.injEq] at hg2
   obtain rfl : n = 1 := by simpa using hb1
   subst hg2
   exact glob_row gn1 ht1 (fun ρ I w => ⟨_, [], (List.append_nil _).symm, ⟨rfl, rfl⟩, rfl⟩)
  | false =>
   rw [hb1, cond_false] at hg2
   cases hb2 : n == 2 with
   | true =>
    rw [hb2, cond_true, Option.some.injEq] at hg2
    obtain rfl : n = 2 := by simpa using hb2
    subst hg2
    exact glob_row gn2 ht2 (fun ρ I w => ⟨_, [], (List.append_nil _).symm, ⟨rfl, rfl⟩, rfl⟩)
   | false =>
    rw [hb2, cond_false] at hg2
    simp at hg2
theorem contract (H : Type) (enc : TypeId × Value → H) (W : World) (base : Nat) (args : Array Value) (ds gs : List (DataW H)) (before : List MemPlace)
  (hval : ∀ (j : Nat) t v, Tryd.f4.params[j]? = some t → args[j]? = some v → Value.okWide Tryd.prog W .any base t v)
  (hW : DataW.Whole enc Tryd.prog Tryd.f4.params.toList Rows.talkOrderSpec.vars false W args.toList ds gs before) (hL : laidMetH Tryd.prog Rows.talkOrderRow.laid W) :
  Calls Tryd.prog 4 args W fun e W' => ∃ v, e = .returned v ∧ Rows.talkOrderSpec.post enc Tryd.prog Tryd.f4 false true false false W args v W' := by
 have hW' := hW
 obtain ⟨p, q, hA0, hV, rfl, hfz, hnd⟩ := hW
 have hA : DataW.TrodAll enc Tryd.prog W 0 (fun _ => true) true Tryd.f4.params.toList args.toList ds p := hA0
 rw [Tryd.params4] at hA hval
 obtain ⟨v0, vs0, d0, ds0, p0, q0, e0, rfl, rfl, h0, r0⟩ := trodAll_cons hA
 obtain ⟨v1, vs1, d1, ds1, p1, q1, e1, rfl, rfl, h1, r1⟩ := trodAll_cons r0
 subst e1
 obtain ⟨v2, vs2, d2, ds2, p2, q2, e2, rfl, rfl, h2, r2⟩ := trodAll_cons r1
 subst e2
 obtain ⟨v3, vs3, d3, ds3, p3, q3, e3, rfl, rfl, h3, r3⟩ := trodAll_cons r2
 subst e3
 obtain ⟨v4, vs4, d4, ds4, p4, q4, e4, rfl, rfl, h4, r4⟩ := trodAll_cons r3
 subst e4
 obtain ⟨rfl, rfl, rfl⟩ := trodAll_nil r4
 obtain rfl : args = #[v0, v1, v2, v3, v4] := by cases args; simp_all
 obtain ⟨rfl, rfl⟩ := trodVars_none hV
 obtain ⟨x0, n0, a0⟩ := open_i64 und3 (hval 0 3 v0 rfl rfl) h0
 obtain ⟨x1, n1, a1⟩ := open_i64 und3 (hval 1 3 v1 rfl rfl) h1
 obtain ⟨x2, n2, a2⟩ := open_i64 und3 (hval 2 3 v2 rfl rfl) h2
 obtain ⟨x3, n3, a3⟩ := open_ints und46 und3 cel3 (hval 3 46 v3 rfl rfl) h3
 obtain ⟨x4, n4, a4⟩ := open_str und9 (hval 4 9 v4 rfl rfl) h4
 have hb := calls_of_law (args := #[v0, v1, v2, v3, v4]) (base_conc (globs (W := W) hL)) (RV_cons.2 ⟨_, _, rfl, a0 _ _ _, (RV_cons.2 ⟨_, _, rfl, a1 _ _ _, (RV_cons.2 ⟨_, _, rfl, a2 _ _ _, (RV_cons.2 ⟨_, _, rfl, a3, (RV_cons.2 ⟨_, _, rfl, a4 _ _ _, RV_nil.2 rfl⟩)⟩)⟩)⟩)⟩) (talkOrder_c x0 n0 x1 n1 x2 n2 x3 n3 x4 n4)
 refine hb.mono ?_
 rintro e W' ⟨rfl, hbel⟩
 exact ⟨_, rfl, post_of_true hW' rfl rfl rfl und4 laidOut (by rw [Tryd.params4]; exact of_decide_eq_true (by kernel_rfl)) hbel⟩
def wArgs : Array Value := #[Value.int .i64 0, Value.int .i64 0, Value.int .i64 0, Value.slice none 0 0, Value.string ⟨#[]⟩]
noncomputable def laidWorld (os : Os) : World :=
 { World.holding Tryd.prog os ⟨#[], #[], []⟩ with heap := ((((World.holding Tryd.prog os ⟨#[], #[], []⟩).heap.modify 1 (fun | .cells _ t frozen => .cells #[.int .u32 1779033703, .int .u32 3144134277, .int .u32 1013904242, .int .u32 2773480762, .int .u32 1359893119, .int .u32 2600822924, .int .u32 528734635, .int .u32 1541459225] t frozen | o => o)).modify 2 (fun | .cells _ t frozen => .cells #[.int .i64 0, .int .i64 1, .int .i64 2, .int .i64 3, .int .i64 4, .int .i64 5, .int .i64 6, .int .i64 7, .int .i64 8, .int .i64 9, .int .i64 10, .int .i64 11, .int .i64 12, .int .i64 13, .int .i64 14, .int .i64 15, .int .i64 14, .int .i64 10, .int .i64 4, .int .i64 8, .int .i64 9, .int .i64 15, .int .i64 13, .int .i64 6, .int .i64 1, .int .i64 12, .int .i64 0, .int .i64 2, .int .i64 11, .int .i64 7, .int .i64 5, .int .i64 3, .int .i64 11, .int .i64 8, .int .i64 12, .int .i64 0, .int .i64 5, .int .i64 2, .int .i64 15, .int .i64 13, .int .i64 10, .int .i64 14, .int .i64 3, .int .i64 6, .int .i64 7, .int .i64 1, .int .i64 9, .int .i64 4, .int .i64 7, .int .i64 9, .int .i64 3, .int .i64 1, .int .i64 13, .int .i64 12, .int .i64 11, .int .i64 14, .int .i64 2, .int .i64 6, .int .i64 5, .int .i64 10, .int .i64 4, .int .i64 0, .int .i64 15, .int .i64 8, .int .i64 9, .int .i64 0, .int .i64 5, .int .i64 7, .int .i64 2, .int .i64 4, .int .i64 10, .int .i64 15, .int .i64 14, .int .i64 1, .int .i64 11, .int .i64 12, .int .i64 6, .int .i64 8, .int .i64 3, .int .i64 13, .int .i64 2, .int .i64 12, .int .i64 6, .int .i64 10, .int .i64 0, .int .i64 11, .int .i64 8, .int .i64 3, .int .i64 4, .int .i64 13, .int .i64 7, .int .i64 5, .int .i64 15, .int .i64 14, .int .i64 1, .int .i64 9, .int .i64 12, .int .i64 5, .int .i64 1, .int .i64 15, .int .i64 14, .int .i64 13, .int .i64 4, .int .i64 10, .int .i64 0, .int .i64 7, .int .i64 6, .int .i64 3, .int .i64 9, .int .i64 2, .int .i64 8, .int .i64 11, .int .i64 13, .int .i64 11, .int .i64 7, .int .i64 14, .int .i64 12, .int .i64 1, .int .i64 3, .int .i64 9, .int .i64 5, .int .i64 0, .int .i64 15, .int .i64 4, .int .i64 8, .int .i64 6, .int .i64 2, .int .i64 10, .int .i64 6, .int .i64 15, .int .i64 14, .int .i64 9, .int .i64 11, .int .i64 3, .int .i64 0, .int .i64 8, .int .i64 12, .int .i64 2, .int .i64 13, .int .i64 7, .int .i64 1, .int .i64 4, .int .i64 10, .int .i64 5, .int .i64 10, .int .i64 2, .int .i64 8, .int .i64 4, .int .i64 7, .int .i64 6, .int .i64 1, .int .i64 5, .int .i64 15, .int .i64 11, .int .i64 9, .int .i64 14, .int .i64 3, .int .i64 12, .int .i64 13, .int .i64 0] t frozen | o => o)).modify 0 (fun | .cells _ t frozen => .cells #[.int .u64 18446744073709551597, .int .u64 18446744073709551615, .int .u64 18446744073709551615, .int .u64 9223372036854775807] t frozen | o => o)) }
theorem laid_met (os : Os) : laidMet Tryd.prog Rows.talkOrderRow.laid ((laidWorld os).forCall (fun _ _ => 0) ⟨#[], wArgs, []⟩).memory :=
 laidMet_of_run' 8 (by kernel_rfl) (by kernel_rfl)
theorem reads (os : Os) {H : Type} (enc : TypeId × Value → H) : ∃ places, DataW.whole enc Tryd.prog ((laidWorld os).forCall (fun _ _ => 0) ⟨#[], wArgs, []⟩).memory Tryd.f4.params.toList Rows.talkOrderSpec.vars false wArgs.toList 8 = some ([.lit (.int .i64 0), .lit (.int .i64 0), .lit (.int .i64 0), .nil, .lit (.string [])], [], places) :=
 ⟨[], by kernel_rfl⟩
set_option maxRecDepth 100000 in
theorem lifted (os : Os) (started : os.Started) (H : Type) (enc : TypeId × Value → H) (F : Stop.Interp) :
  ReturnsInHanded {} Tryd.checked os 4 .any ((OpenSpec.ofChange Rows.talkOrderSpec).preRow enc Tryd.prog Tryd.f4 Rows.talkOrderRow.domain false Rows.talkOrderRow.laid) (((OpenSpec.ofChange Rows.talkOrderSpec).at F).post enc Tryd.prog Tryd.f4 false true false false) := by
 obtain ⟨places, hx⟩ := reads os enc
 refine returnsInHanded_of_row (C := Tryd.checked) (s := OpenSpec.ofChange Rows.talkOrderSpec) own started (by kernel_rfl) Tryd.func4
  (witness_row_at (enc := enc) (C := Tryd.checked) false (laidWorld os) wArgs rfl (by kernel_rfl) (by kernel_rfl) (by kernel_rfl)
   (OpenSpec.preRow_of_cond 8 hx (by kernel_rfl) (fun k hk => by cases hk) (by kernel_rfl) (laid_met os))) ?_
 intro W base args ds gs before hval hW _ _ _ hL _ _
 exact contract H enc W base args ds gs before hval hW hL
theorem said : Rows.TalkOrderSaid :=
 OpenClaim.holds_of_cond 4 Tryd.f4 rfl rfl rfl rfl rfl rfl rfl ⟨rfl, rfl, rfl, rfl, rfl⟩ rfl rfl rfl rfl rfl (by kernel_rfl) Tryd.func4 (by kernel_rfl)
  (of_decide_eq_true (by kernel_rfl)) (by unfold Func.isWrapper; first | (rw [if_pos (by decide +kernel)]; kernel_rfl) | (rw [if_neg (by decide +kernel)]; exact ⟨rfl, rfl⟩))
  (fun os started H enc _ F => by rw [OpenClaim.pre_eq_preRow]; exact lifted os started H enc F)
theorem plain (f : FuncId) (fn : Func) (hf : Tryd.pinned.checked.prog.funcNamed "signet/signetkeep.TalkOrder" = some f) (hfn : Tryd.pinned.checked.prog.funcs[f]? = some fn) :
  false = Tryd.pinned.checked.prog.looks [] ∧ ∀ (j : Nat) t, fn.params[j]? = some t → Tryd.pinned.checked.prog.wantsStandIn t = false := by
 obtain rfl : f = 4 := Option.some.inj ((show Tryd.prog.funcNamed "signet/signetkeep.TalkOrder" = some 4 by kernel_rfl).symm.trans hf) |>.symm
 obtain rfl : fn = Tryd.f4 := (Option.some.inj (Tryd.func4.symm.trans hfn)).symm
 refine ⟨by kernel_rfl, fun j t ht => ?_⟩
 have all : Tryd.f4.params.all (fun t => !Tryd.pinned.checked.prog.wantsStandIn t) = true := by kernel_rfl
 have := Array.all_eq_true_iff_forall_mem.1 all t (Array.mem_of_getElem? ht)
 simpa using this
theorem card : Rows.TalkOrderCardSaid :=
 Claim7.holds_tied_plain_at .later [] _ _ _ _ said (fun _ h => by cases h) (by kernel_rfl) (fun _ h => by cases h) talkOrder_row_tie rfl ⟨rfl, rfl⟩ (by kernel_rfl) rfl plain (by kernel_rfl)
end Go.Proofs.YtehaohfglolljaaDoor.talkOrder