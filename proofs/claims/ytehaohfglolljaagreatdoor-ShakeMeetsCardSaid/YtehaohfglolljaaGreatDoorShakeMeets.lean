/- signetkeep.ShakeMeets: it returns true for every input, and its arguments read behind the call as they did. No condition beside those of the given row. -/
import Derived.Test.YtehaohfglolljaaGreatDoorZzaq
import Derived.Test.YtehaohfglolljaaGreatDoorZzat
import Derived.Test.YtehaohfglolljaaGreatDoorZzai
import Derived.Test.YtehaohfglolljaaGreatDoorZzam
import Derived.Test.YtehaohfglolljaaGreatDoorCards
import Derived.Test.YtehaohfglolljaaGreatDoorTie

set_option linter.unusedSimpArgs false
set_option linter.unusedVariables false
namespace Go.Proofs.YtehaohfglolljaaGreatDoor.shakeMeets
open Go Go.V Go.ChangeShapes Go.WideShapes Go.RowKit
set_option maxRecDepth 100000
theorem own : ownKnob Tryz.prog.godebug = none := by kernel_rfl
theorem laidOut : laidOutB Tryz.prog = true := by kernel_rfl
theorem und3 : Tryz.prog.underlying 3 = some (.int .i64) := by kernel_rfl
theorem cel3 : Tryz.prog.cellsOf 3 = 1 := by kernel_rfl
theorem und22 : Tryz.prog.underlying 22 = some (.array 32 5) := by kernel_rfl
theorem cel22 : Tryz.prog.cellsOf 22 = 32 := by kernel_rfl
theorem und5 : Tryz.prog.underlying 5 = some (.int .u8) := by kernel_rfl
theorem cel5 : Tryz.prog.cellsOf 5 = 1 := by kernel_rfl
theorem und9 : Tryz.prog.underlying 9 = some (.string) := by kernel_rfl
theorem cel9 : Tryz.prog.cellsOf 9 = 1 := by kernel_rfl
theorem und4 : Tryz.prog.underlying 4 = some (.bool) := by kernel_rfl
theorem cel4 : Tryz.prog.cellsOf 4 = 1 := by kernel_rfl
theorem und205 : Tryz.prog.underlying 205 = some (.array 16 204) := by kernel_rfl
theorem cel205 : Tryz.prog.cellsOf 205 = 32 := by kernel_rfl
theorem cel204 : Tryz.prog.cellsOf 204 = 2 := by kernel_rfl
noncomputable def flds204 : Array Field := match Tryz.prog.underlying 204 with | some (.struct fs) => fs | _ => #[]
theorem und204 : Tryz.prog.underlying 204 = some (.struct flds204) := by kernel_rfl
theorem fld204_0 : (flds204[0]?).map (fun f => (f.offset, f.type)) = some (0, 5) := by kernel_rfl
theorem fld204_1 : (flds204[1]?).map (fun f => (f.offset, f.type)) = some (1, 5) := by kernel_rfl
theorem gn6 : Tryz.prog.globalNamed "unicode/utf8.acceptRanges" = some 6 := by kernel_rfl
theorem gt6 : (Tryz.prog.globals[6]?).map (·.type) = some 205 := by kernel_rfl
theorem und122 : Tryz.prog.underlying 122 = some (.array 8 120) := by kernel_rfl
theorem cel122 : Tryz.prog.cellsOf 122 = 8 := by kernel_rfl
theorem und120 : Tryz.prog.underlying 120 = some (.int .u32) := by kernel_rfl
theorem cel120 : Tryz.prog.cellsOf 120 = 1 := by kernel_rfl
theorem gn2 : Tryz.prog.globalNamed "signet/blake.first" = some 2 := by kernel_rfl
theorem gt2 : (Tryz.prog.globals[2]?).map (·.type) = some 122 := by kernel_rfl
theorem und189 : Tryz.prog.underlying 189 = some (.array 10 188) := by kernel_rfl
theorem cel189 : Tryz.prog.cellsOf 189 = 160 := by kernel_rfl
theorem und188 : Tryz.prog.underlying 188 = some (.array 16 3) := by kernel_rfl
theorem cel188 : Tryz.prog.cellsOf 188 = 16 := by kernel_rfl
theorem gn4 : Tryz.prog.globalNamed "signet/blake.orders" = some 4 := by kernel_rfl
theorem gt4 : (Tryz.prog.globals[4]?).map (·.type) = some 189 := by kernel_rfl
theorem und98 : Tryz.prog.underlying 98 = some (.array 4 29) := by kernel_rfl
theorem cel98 : Tryz.prog.cellsOf 98 = 4 := by kernel_rfl
theorem und29 : Tryz.prog.underlying 29 = some (.int .u64) := by kernel_rfl
theorem cel29 : Tryz.prog.cellsOf 29 = 1 := by kernel_rfl
theorem gn3 : Tryz.prog.globalNamed "signet/field.prime" = some 3 := by kernel_rfl
theorem gt3 : (Tryz.prog.globals[3]?).map (·.type) = some 98 := by kernel_rfl
theorem und80 : Tryz.prog.underlying 80 = some (.array 6 9) := by kernel_rfl
theorem cel80 : Tryz.prog.cellsOf 80 = 6 := by kernel_rfl
theorem gn0 : Tryz.prog.globalNamed "signet/signetkeep.bases" = some 0 := by kernel_rfl
theorem gt0 : (Tryz.prog.globals[0]?).map (·.type) = some 80 := by kernel_rfl
theorem und202 : Tryz.prog.underlying 202 = some (.array 256 5) := by kernel_rfl
theorem cel202 : Tryz.prog.cellsOf 202 = 256 := by kernel_rfl
theorem gn5 : Tryz.prog.globalNamed "unicode/utf8.first" = some 5 := by kernel_rfl
theorem gt5 : (Tryz.prog.globals[5]?).map (·.type) = some 202 := by kernel_rfl
theorem globs {W : World} (h : laidMetH Tryz.prog Rows.shakeMeetsRow.laid W) (hs : W.ShapedOpen Tryz.prog) : ∀ n c, Tryz.E.g n = some c → ∃ vs, GL (I0 W) W c vs ∧ Lies (I0 W) W n 0 vs := by
 intro n c hg;have hm : laidMet Tryz.prog [("signet/signetkeep.bases", zkk [[78, 78], [78, 75], [88, 88], [73, 75], [88, 75], [75, 75]])] W := laidMetH.filter (fun x => x.1 == "signet/signetkeep.bases") h
 have hm2 : laidMetH Tryz.prog [("signet/blake.first", Rows.laid_signet_blake_first)] W := laidMetH.filter (fun x => x.1 == "signet/blake.first") h
 have ht2 : Lib.TabIs Tryz.prog W "signet/blake.first" .u32 [1779033703, 3144134277, 1013904242, 2773480762, 1359893119, 2600822924, 528734635, 1541459225] := Lib.tabIs_of_head (rest := []) gn2 gt2 und122 und120 cel120 cel122 hm2;have hm4 : laidMetH Tryz.prog [("signet/blake.first", Rows.laid_signet_blake_first), ("signet/blake.orders", Rows.laid_signet_blake_orders)] W := laidMetH.filter (fun x => x.1 == "signet/blake.first" || x.1 == "signet/blake.orders") h
 have ht4 : Lib.TabIs Tryz.prog W "signet/blake.orders" .i64 ([[0, 1, 2, 3, 4, 5, 6, 7, 8, 9, 10, 11, 12, 13, 14, 15], [14, 10, 4, 8, 9, 15, 13, 6, 1, 12, 0, 2, 11, 7, 5, 3], [11, 8, 12, 0, 5, 2, 15, 13, 10, 14, 3, 6, 7, 1, 9, 4], [7, 9, 3, 1, 13, 12, 11, 14, 2, 6, 5, 10, 4, 0, 15, 8], [9, 0, 5, 7, 2, 4, 10, 15, 14, 1, 11, 12, 6, 8, 3, 13], [2, 12, 6, 10, 0, 11, 8, 3, 4, 13, 7, 5, 15, 14, 1, 9], [12, 5, 1, 15, 14, 13, 4, 10, 0, 7, 6, 3, 9, 2, 8, 11], [13, 11, 7, 14, 12, 1, 3, 9, 5, 0, 15, 4, 8, 6, 2, 10], [6, 15, 14, 9, 11, 3, 0, 8, 12, 2, 13, 7, 1, 4, 10, 5], [10, 2, 8, 4, 7, 6, 1, 5, 15, 11, 9, 14, 3, 12, 13, 0]] : List (List Int)).flatten := zpl (rest := []) gn4 gt4 (by decide) und189 und188 und3 cel3 cel188 cel189 (by decide) hm4
 have hm3 : laidMetH Tryz.prog [("signet/field.prime", Rows.laid_signet_field_prime)] W := laidMetH.filter (fun x => x.1 == "signet/field.prime") h
 have ht3 : Lib.TabIs Tryz.prog W "signet/field.prime" .u64 [18446744073709551597, 18446744073709551615, 18446744073709551615, 9223372036854775807] := Lib.tabIs_of_head (rest := []) gn3 gt3 und98 und29 cel29 cel98 hm3;have hg2 : (bif n == 3 then _ else bif n == 2 then _ else bif n == 4 then _ else bif n == 0 then some (([[78, 78], [78, 75], [88, 88], [73, 75], [88, 75], [75, 75]] : List (List UInt8)).map AV.str) else bif n == 1 then some [AV.any] else none) = some c := hg;cases hb3 : n == 3 with
 | true =>
  rw [hb3, cond_true, Option.some.injEq] at hg2;obtain rfl : n = 3 := by simpa using hb3
  subst hg2;exact zlx gn3 ht3 (fun ρ I w => ⟨_, [], (List.append_nil _).symm, ⟨rfl, rfl⟩, rfl⟩)
 | false =>
  rw [hb3, cond_false] at hg2;cases hb2 : n == 2 with
  | true =>
   rw [hb2, cond_true, Option.some.injEq] at hg2;obtain rfl : n = 2 := by simpa using hb2
   subst hg2;exact zlx gn2 ht2 (fun ρ I w => ⟨_, [], (List.append_nil _).symm, ⟨rfl, rfl⟩, rfl⟩)
  | false =>
   rw [hb2, cond_false] at hg2;cases hb4 : n == 4 with
   | true =>
    rw [hb4, cond_true, Option.some.injEq] at hg2;obtain rfl : n = 4 := by simpa using hb4
    subst hg2;exact zlx gn4 ht4 (fun ρ I w => ⟨_, [], (List.append_nil _).symm, ⟨rfl, rfl⟩, rfl⟩)
   | false =>
    rw [hb4, cond_false] at hg2;cases hb0 : n == 0 with
    | true =>
     rw [hb0, cond_true, Option.some.injEq] at hg2;obtain rfl : n = 0 := by simpa using hb0
     subst hg2;exact z14t gn0 gt0 und80 und9 cel9 cel80 hm rfl
    | false =>
     rw [hb0, cond_false] at hg2;cases hb1 : n == 1 with
     | true =>
      rw [hb1, cond_true, Option.some.injEq] at hg2;obtain rfl : n = 1 := by simpa using hb1
      subst hg2;exact z19p (Tryz.z1me.s1_3 W hs)
     | false =>
      rw [hb1, cond_false] at hg2;simp at hg2
theorem contract (H : Type) (enc : TypeId × Value → H) (W : World) (base : Nat) (args : Array Value) (ds gs : List (DataW H)) (before : List MemPlace)
  (hval : ∀ (j : Nat) t v, Tryz.f4.params[j]? = some t → args[j]? = some v → Value.okWide Tryz.prog W .any base t v)
  (hW : DataW.Whole enc Tryz.prog Tryz.f4.params.toList Rows.shakeMeetsSpec.vars false W args.toList ds gs before) (hL : laidMetH Tryz.prog Rows.shakeMeetsRow.laid W) (hS : W.ShapedOpen Tryz.prog) :
  Calls Tryz.prog 4 args W fun e W' => ∃ v, e = .returned v ∧ Rows.shakeMeetsSpec.post enc Tryz.prog Tryz.f4 false true false false W args v W' := by
 have hW' := hW;obtain ⟨p, q, hA0, hV, rfl, hfz, hnd⟩ := hW;have hA : DataW.TrodAll enc Tryz.prog W 0 (fun _ => true) true Tryz.f4.params.toList args.toList ds p := hA0
 rw [Tryz.params4] at hA hval;obtain ⟨v0, vs0, d0, ds0, p0, q0, e0, rfl, rfl, h0, r0⟩ := trodAll_cons hA;obtain ⟨v1, vs1, d1, ds1, p1, q1, e1, rfl, rfl, h1, r1⟩ := trodAll_cons r0;subst e1;obtain ⟨v2, vs2, d2, ds2, p2, q2, e2, rfl, rfl, h2, r2⟩ := trodAll_cons r1;subst e2;obtain ⟨v3, vs3, d3, ds3, p3, q3, e3, rfl, rfl, h3, r3⟩ := trodAll_cons r2;subst e3;obtain ⟨v4, vs4, d4, ds4, p4, q4, e4, rfl, rfl, h4, r4⟩ := trodAll_cons r3;subst e4;obtain ⟨v5, vs5, d5, ds5, p5, q5, e5, rfl, rfl, h5, r5⟩ := trodAll_cons r4;subst e5;obtain ⟨v6, vs6, d6, ds6, p6, q6, e6, rfl, rfl, h6, r6⟩ := trodAll_cons r5;subst e6;obtain ⟨v7, vs7, d7, ds7, p7, q7, e7, rfl, rfl, h7, r7⟩ := trodAll_cons r6;subst e7;obtain ⟨rfl, rfl, rfl⟩ := trodAll_nil r7;obtain rfl : args = #[v0, v1, v2, v3, v4, v5, v6, v7] := by cases args; simp_all
 obtain ⟨rfl, rfl⟩ := trodVars_none hV;obtain ⟨x0, n0, a0⟩ := zly und3 (hval 0 3 v0 rfl rfl) h0;obtain ⟨x1, n1, a1⟩ := zly und3 (hval 1 3 v1 rfl rfl) h1;obtain ⟨x2, n2, a2⟩ := zdr und22 und5 cel5 cel22 (hval 2 22 v2 rfl rfl) h2;obtain ⟨x3, n3, a3⟩ := zdr und22 und5 cel5 cel22 (hval 3 22 v3 rfl rfl) h3;obtain ⟨x4, n4, a4⟩ := zdr und22 und5 cel5 cel22 (hval 4 22 v4 rfl rfl) h4;obtain ⟨x5, n5, a5⟩ := zdr und22 und5 cel5 cel22 (hval 5 22 v5 rfl rfl) h5;obtain ⟨x6, n6, a6⟩ := zly und3 (hval 6 3 v6 rfl rfl) h6;obtain ⟨x7, n7, a7⟩ := z1a5 und9 (hval 7 9 v7 rfl rfl) h7;have hb := ztq (args := #[v0, v1, v2, v3, v4, v5, v6, v7]) (z16m (globs (W := W) hL hS)) (zr.2 ⟨_, _, rfl, a0 _ _ _, (zr.2 ⟨_, _, rfl, a1 _ _ _, (zr.2 ⟨_, _, rfl, a2 _ _ _, (zr.2 ⟨_, _, rfl, a3 _ _ _, (zr.2 ⟨_, _, rfl, a4 _ _ _, (zr.2 ⟨_, _, rfl, a5 _ _ _, (zr.2 ⟨_, _, rfl, a6 _ _ _, (zr.2 ⟨_, _, rfl, a7 _ _ _, z5k.2 rfl⟩)⟩)⟩)⟩)⟩)⟩)⟩)⟩) (zu6 x0 n0 x1 n1 x2 x3 x4 x5 x6 n6 x7 n7);refine hb.mono ?_;rintro e W' ⟨rfl, hbel⟩;exact ⟨_, rfl, zwp hW' rfl rfl rfl und4 laidOut (by rw [Tryz.params4]; exact of_decide_eq_true (by kernel_rfl)) hbel⟩
def wArgs : Array Value := #[Value.int .i64 0, Value.int .i64 0, Value.agg (List.replicate 32 (Value.int .u8 0)).toArray, Value.agg (List.replicate 32 (Value.int .u8 0)).toArray, Value.agg (List.replicate 32 (Value.int .u8 0)).toArray, Value.agg (List.replicate 32 (Value.int .u8 0)).toArray, Value.int .i64 0, Value.string ⟨#[]⟩]
noncomputable def laidWorld (os : Os) : World :=
 { World.holding Tryz.prog os ⟨#[], #[], []⟩ with heap := (((((((World.holding Tryz.prog os ⟨#[], #[], []⟩).heap.modify 6 (fun | .cells _ t frozen => .cells (List.map (Value.int .u8) [128, 191, 160, 191, 128, 159, 144, 191, 128, 143, 0, 0, 0, 0, 0, 0, 0, 0, 0, 0, 0, 0, 0, 0, 0, 0, 0, 0, 0, 0, 0, 0]).toArray t frozen | o => o)).modify 2 (fun | .cells _ t frozen => .cells (List.map (Value.int .u32) [1779033703, 3144134277, 1013904242, 2773480762, 1359893119, 2600822924, 528734635, 1541459225]).toArray t frozen | o => o)).modify 4 (fun | .cells _ t frozen => .cells (List.map (Value.int .i64) [0, 1, 2, 3, 4, 5, 6, 7, 8, 9, 10, 11, 12, 13, 14, 15, 14, 10, 4, 8, 9, 15, 13, 6, 1, 12, 0, 2, 11, 7, 5, 3, 11, 8, 12, 0, 5, 2, 15, 13, 10, 14, 3, 6, 7, 1, 9, 4, 7, 9, 3, 1, 13, 12, 11, 14, 2, 6, 5, 10, 4, 0, 15, 8, 9, 0, 5, 7, 2, 4, 10, 15, 14, 1, 11, 12, 6, 8, 3, 13, 2, 12, 6, 10, 0, 11, 8, 3, 4, 13, 7, 5, 15, 14, 1, 9, 12, 5, 1, 15, 14, 13, 4, 10, 0, 7, 6, 3, 9, 2, 8, 11, 13, 11, 7, 14, 12, 1, 3, 9, 5, 0, 15, 4, 8, 6, 2, 10, 6, 15, 14, 9, 11, 3, 0, 8, 12, 2, 13, 7, 1, 4, 10, 5, 10, 2, 8, 4, 7, 6, 1, 5, 15, 11, 9, 14, 3, 12, 13, 0]).toArray t frozen | o => o)).modify 3 (fun | .cells _ t frozen => .cells (List.map (Value.int .u64) [18446744073709551597, 18446744073709551615, 18446744073709551615, 9223372036854775807]).toArray t frozen | o => o)).modify 0 (fun | .cells _ t frozen => .cells #[.string ⟨#[78, 78]⟩, .string ⟨#[78, 75]⟩, .string ⟨#[88, 88]⟩, .string ⟨#[73, 75]⟩, .string ⟨#[88, 75]⟩, .string ⟨#[75, 75]⟩] t frozen | o => o)).modify 5 (fun | .cells _ t frozen => .cells (Go.Pinned.utf8FirstZ.map fun (z : Nat) => Value.int .u8 (Int.ofNat z)).toArray t frozen | o => o)) }
theorem laid_met (os : Os) : laidMet Tryz.prog Rows.shakeMeetsRow.laid ((laidWorld os).forCall (fun _ _ => 0) ⟨#[], wArgs, []⟩).memory :=
 laidMet_of_run' 8 (by kernel_rfl) (by kernel_rfl)
theorem reads (os : Os) {H : Type} (enc : TypeId × Value → H) : ∃ places, DataW.whole enc Tryz.prog ((laidWorld os).forCall (fun _ _ => 0) ⟨#[], wArgs, []⟩).memory Tryz.f4.params.toList Rows.shakeMeetsSpec.vars false wArgs.toList 8 = some ([.lit (.int .i64 0), .lit (.int .i64 0), .agg (List.replicate 32 (.lit (.int .u8 0))), .agg (List.replicate 32 (.lit (.int .u8 0))), .agg (List.replicate 32 (.lit (.int .u8 0))), .agg (List.replicate 32 (.lit (.int .u8 0))), .lit (.int .i64 0), .lit (.string [])], [], places) :=
 ⟨[], by kernel_rfl⟩
set_option maxRecDepth 100000 in
theorem lifted (os : Os) (started : os.Started) (H : Type) (enc : TypeId × Value → H) (F : Stop.Interp) :
  ReturnsInHanded {} Tryz.checked os 4 .any ((OpenSpec.ofChange Rows.shakeMeetsSpec).preRow enc Tryz.prog Tryz.f4 Rows.shakeMeetsRow.domain false Rows.shakeMeetsRow.laid) (((OpenSpec.ofChange Rows.shakeMeetsSpec).at F).post enc Tryz.prog Tryz.f4 false true false false) := by
 obtain ⟨places, hx⟩ := reads os enc;refine returnsInHanded_of_row (C := Tryz.checked) (s := OpenSpec.ofChange Rows.shakeMeetsSpec) own started (by kernel_rfl) Tryz.func4
  (witness_row_at (enc := enc) (C := Tryz.checked) false (laidWorld os) wArgs rfl (by kernel_rfl) (by kernel_rfl) (by kernel_rfl)
   (OpenSpec.preRow_of_cond 8 hx (by kernel_rfl) (fun k hk => by cases hk) (by kernel_rfl) (laid_met os))) ?_
 intro W base args ds gs before hval hW _ _ _ hL hS _;exact contract H enc W base args ds gs before hval hW hL hS
theorem said : Rows.ShakeMeetsSaid :=
 OpenClaim.holds_of_cond 4 Tryz.f4 rfl rfl rfl rfl rfl rfl rfl ⟨rfl, rfl, rfl, rfl, rfl⟩ rfl rfl rfl rfl rfl (by kernel_rfl) Tryz.func4 (by kernel_rfl)
  (of_decide_eq_true (by kernel_rfl)) (by unfold Func.isWrapper; first | (rw [if_pos (by decide +kernel)]; kernel_rfl) | (rw [if_neg (by decide +kernel)]; exact ⟨rfl, rfl⟩))
  (fun os started H enc _ F => by rw [OpenClaim.pre_eq_preRow]; exact lifted os started H enc F)
theorem plain (f : FuncId) (fn : Func) (hf : Tryz.pinned.checked.prog.funcNamed "signet/signetkeep.ShakeMeets" = some f) (hfn : Tryz.pinned.checked.prog.funcs[f]? = some fn) :
  false = Tryz.pinned.checked.prog.looks [] ∧ ∀ (j : Nat) t, fn.params[j]? = some t → Tryz.pinned.checked.prog.wantsStandIn t = false := by
 obtain rfl : f = 4 := Option.some.inj ((show Tryz.prog.funcNamed "signet/signetkeep.ShakeMeets" = some 4 by kernel_rfl).symm.trans hf) |>.symm
 obtain rfl : fn = Tryz.f4 := (Option.some.inj (Tryz.func4.symm.trans hfn)).symm;refine ⟨by kernel_rfl, fun j t ht => ?_⟩
 have all : Tryz.f4.params.all (fun t => !Tryz.pinned.checked.prog.wantsStandIn t) = true := by kernel_rfl
 have := Array.all_eq_true_iff_forall_mem.1 all t (Array.mem_of_getElem? ht);simpa using this
theorem card : Rows.ShakeMeetsCardSaid :=
 Claim7.holds_tied_plain_at .later [] _ _ _ _ said (fun _ h => by cases h) (by kernel_rfl) (fun _ h => by cases h) shakeMeets_row_tie rfl ⟨rfl, rfl⟩ (by kernel_rfl) rfl plain (by kernel_rfl)
end Go.Proofs.YtehaohfglolljaaGreatDoor.shakeMeets