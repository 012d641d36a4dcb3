import Derived.Test.YtehaohfglolljaaGreatDoorZzag
import Derived.Test.YtehaohfglolljaaGreatDoorZzaj
import Derived.Test.YtehaohfglolljaaGreatDoorZzab
import Derived.Test.YtehaohfglolljaaGreatDoorZzal
import Derived.Test.YtehaohfglolljaaGreatDoorZzar
set_option linter.unusedSimpArgs false
set_option linter.unusedVariables false
namespace Go.Proofs.YtehaohfglolljaaGreatDoor
open Go Go.V
noncomputable def R1 : ROps Tryz.E := ROps.cold0 Tryz.E
noncomputable def R2 : ROps Tryz.E := ROps.lit (ROps.std Tryz.E)
set_option maxRecDepth 100000
theorem upicked_w (n m : Int) (K : AV → Heap → Prop) : walk Tryz.E (ROps.rows Tryz.E) (Ctr.nil Tryz.E).C (fun _ _ => .unroll 6) 3 16 [.int .i64 n, .int .i64 m] K =
  cnd (m != 0) (ite2 (ltI (n.tmod m) 0) (K (.int .i64 (wr .i64 (n.tmod m + m))) []) (K (.int .i64 (n.tmod m)) [])) := by kernel_rfl
theorem upicked_c (n m : Int) (h1 : 0 < m) (h2 : m ≤ 9223372036854775807) : HCall Tryz.E 16 [.int .i64 n, .int .i64 m] (.ret (.int .i64 (n % m)) []) := by
 refine HCall.of_walk (R := ROps.rows Tryz.E) (T := Ctr.nil Tryz.E) (fun _ _ => .unroll 6) 3 rfl rfl ?_
 rw [upicked_w, cnd_eq, ltI_eq, wr_eq]
 refine ⟨by simp; omega, ?_⟩
 have e := pick_val (n := n) h1
 have h6 := Int.emod_nonneg n (show m ≠ 0 by omega)
 have h7 := Int.emod_lt_of_pos n h1
 rw [ite2_eq]
 refine ⟨fun h => ?_, fun h => ?_⟩
 ·rw [if_pos (of_decide_eq_true h)] at e
  rw [e, wrapI (by omega) (by omega)]; exact ⟨rfl, rfl⟩
 ·rw [if_neg (of_decide_eq_false h)] at e
  rw [e]; exact ⟨rfl, rfl⟩
def altN (x : Int) : Nat → Int → Out
 | 0, k => .ret (.int .i64 k) []
 | 1, k => .ret (.int .i64 k) []
 | n + 2, k => .alt (x == k) (.ret (.int .i64 k) []) (altN x (n + 1) (k + 1))
theorem altN_has (x : Int) : ∀ (n : Nat) (k : Int), k ≤ x → x < k + n → (altN x n k).has (.int .i64 x) []
 | 0, k, h1, h2 => by omega
 | 1, k, h1, h2 => by
  obtain rfl : x = k := by omega
  exact ⟨rfl, rfl⟩
 | n + 2, k, h1, h2 => by
  rw [altN]
  cases hb : x == k with
  | true =>
   have : x = k := by simpa using hb
   subst this
   exact ⟨rfl, rfl⟩
  | false =>
   have : x ≠ k := by simpa using hb
   exact altN_has x (n + 1) (k + 1) (by omega) (by omega)
theorem altN_ok (x : Int) : ∀ (n : Nat) (k : Int), (altN x n k).okB = true
 | 0, k => rfl
 | 1, k => rfl
 | n + 2, k => by rw [altN, Out.okB, altN_ok x (n + 1) (k + 1)]; rfl
theorem pick_alt (n m : Int) (h1 : 0 < m) (h2 : m ≤ 64) : HCall Tryz.E 16 [.int .i64 n, .int .i64 m] (altN (n % m) m.toNat 0) := by
 obtain ⟨hp, _, hc⟩ := upicked_c n m h1 (by omega)
 refine ⟨hp, altN_ok _ _ _, fun ρ I w vs c r => (hc ρ I w vs c r).mono ?_⟩
 rintro e w' ⟨x, rfl, ρ', I', v, H', g, c', hr, hh⟩
 obtain ⟨rfl, rfl⟩ := hh
 refine ⟨x, rfl, ρ', I', _, _, g, c', hr, altN_has _ _ _ (Int.emod_nonneg n (by omega)) ?_⟩
 have := Int.emod_lt_of_pos n h1
 omega
noncomputable def D0 : Ctr Tryz.E := (Ctr.nil Tryz.E).add 16 (fun
  | [.int .i64 n, .int .i64 m] => some (decide (0 < m) && decide (m ≤ 64), altN (n % m) m.toNat 0)
  | _ => none) (by
   intro args pre out h hp
   split at h
   ·simp only [Option.some.injEq, Prod.mk.injEq] at h
    obtain ⟨rfl, rfl⟩ := h
    simp only [Bool.and_eq_true, decide_eq_true_eq] at hp
    exact pick_alt _ _ hp.1 hp.2
   ·simp at h)
end Go.Proofs.YtehaohfglolljaaGreatDoor
namespace Go.Proofs.YtehaohfglolljaaGreatDoor
open Go Go.V Go.Pat
set_option maxRecDepth 100000
def qInts (l : List Int) (x : AV) : Bool := okIs x && decide (rdIs x = l)
theorem qInts_le {l : List Int} {x : AV} (h : qInts l x = true) : leV x (vI l) := by
 simp only [qInts, Bool.and_eq_true, decide_eq_true_eq] at h
 rw [← h.2]
 exact okIs_le h.1
def plCases : List (Int × Int) := (List.range 16).flatMap fun (k : Nat) => [(2, (k : Int)), (3, (k : Int))]
theorem places_w : wAll (fun x : Int × Int => walkH Tryz.E R1 (Ctr.nil Tryz.E).C (fun _ _ => .unroll 6) 4 32 [.int .i64 x.1, .int .i64 x.2] [] (leafB (qInts (plL x.1 x.2)))) plCases = tAll plCases := by kernel_rfl
theorem places_c (m k : Int) (h : (m, k) ∈ plCases) : HCall Tryz.E 32 [.int .i64 m, .int .i64 k] (.ret (vI (plL m k)) []) :=
 HCall.of_walkB (R := R1) (T := Ctr.nil Tryz.E) (fun _ _ => .unroll 6) 4 rfl (wAll_of places_w (m, k) h) (fun _ => qInts_le) rfl
noncomputable def D1 : Ctr Tryz.E := D0.add 32 (fun
  | [.int .i64 m, .int .i64 k] => some (decide ((m, k) ∈ plCases), .ret (vI (plL m k)) [])
  | _ => none) (by
   intro args pre out h hp
   split at h
   ·simp only [Option.some.injEq, Prod.mk.injEq] at h
    obtain ⟨rfl, rfl⟩ := h
    exact places_c _ _ (of_decide_eq_true hp)
   ·simp at h)
theorem with_w : wAll (fun x : List UInt8 × List Int => walkH Tryz.E R2 (Ctr.nil Tryz.E).C (fun _ _ => .unroll 8) 4 31 [.str x.1, vI x.2] [] (leafB (qWith (withP x.1 x.2)))) allW = tAll allW := by kernel_rfl
theorem with_c (s : List UInt8) (l : List Int) (h : isW s l = true) : HCall Tryz.E 31 [.str s, vI l] (.ret (.tup [patV (withP s l), .int .i64 0]) []) :=
 HCall.of_walkB (R := R2) (T := Ctr.nil Tryz.E) (fun _ _ => .unroll 8) 4 rfl (wAll_of with_w (s, l) (of_decide_eq_true h)) (fun _ => qWith_le) rfl
theorem with_l (s : List UInt8) (l : List Int) (h : isW s l = true) : HCall Tryz.E 31 [.str s, vI l] (.ret (.tup [patL (withP s l), .int .i64 0]) []) :=
 HCall.weak (with_c s l h) (leV_tup (leRV_cons (leV_patL _) (leRV_cons (leV.refl _) leRV_nil))) (refsA_pure _ (by show pureL _ = true; rw [pureL, pure_patL]; rfl) _)
noncomputable def D2 : Ctr Tryz.E := D1.add 31 (fun
  | [.str s, x] => some (okIs x && isWT s (rdIs x), withO s (rdIs x))
  | _ => none) (by
   intro args pre out h hp
   split at h
   ·simp only [Option.some.injEq, Prod.mk.injEq] at h
    obtain ⟨rfl, rfl⟩ := h
    simp only [Bool.and_eq_true, isWT_iff] at hp
    rw [withO_eq hp.2]
    refine HCall.args (with_l _ _ hp.2) (by simp [pureL, pureA, okIs_pure hp.1]) fun ρ I w vs r => ?_
    obtain ⟨x, xs, rfl, k1, k2⟩ := RV_cons.1 r
    obtain ⟨y, ys, rfl, k3, k4⟩ := RV_cons.1 k2
    exact RV_cons.2 ⟨x, _, rfl, k1, RV_cons.2 ⟨y, ys, rfl, okIs_le hp.1 _ _ _ _ k3, k4⟩⟩
   ·simp at h)
theorem checkF : wAll (fun a => walkH Tryz.E R2 (Ctr.nil Tryz.E).C (fun _ _ => .unroll 12) 4 51 [a] [] (leafB qNil)) (tabA.take 33) = tAll (tabA.take 33) := by kernel_rfl
theorem checkG : wAll (fun a => walkH Tryz.E R2 (Ctr.nil Tryz.E).C (fun _ _ => .unroll 12) 4 51 [a] [] (leafB qNil)) ((tabA.drop 33).take 12) = tAll ((tabA.drop 33).take 12) := by kernel_rfl
theorem checkG2 : wAll (fun a => walkH Tryz.E R2 (Ctr.nil Tryz.E).C (fun _ _ => .unroll 12) 4 51 [a] [] (leafB qNil)) ((tabA.drop 45).take 10) = tAll ((tabA.drop 45).take 10) := by kernel_rfl
theorem checkG3 : wAll (fun a => walkH Tryz.E R2 (Ctr.nil Tryz.E).C (fun _ _ => .unroll 12) 4 51 [a] [] (leafB qNil)) (tabA.drop 55) = tAll (tabA.drop 55) := by kernel_rfl
theorem patCheck_c (p : Pat) (h : p ∈ tabP) : HCall Tryz.E 51 [patL p] (.ret (.int .i64 0) []) := by
 have hm : patL p ∈ tabA := by rw [← tabA_eq]; exact List.mem_map_of_mem h
 have hp : pureL [patL p] = true := by rw [pureL, pure_patL]; rfl
 have key : ∀ L : List AV, (∀ a ∈ L, walkH Tryz.E R2 (Ctr.nil Tryz.E).C (fun _ _ => .unroll 12) 4 51 [a] [] (leafB qNil)) → patL p ∈ L → HCall Tryz.E 51 [patL p] (.ret (.int .i64 0) []) :=
  fun L hL hm => HCall.of_walkB (R := R2) (T := Ctr.nil Tryz.E) (fun _ _ => .unroll 12) 4 hp (hL _ hm) (fun _ => qNil_le) rfl
 rw [← List.take_append_drop 33 tabA, List.mem_append] at hm
 rcases hm with hm | hm
 ·exact key _ (wAll_of checkF) hm
 rw [← List.take_append_drop 12 (tabA.drop 33), List.mem_append, List.drop_drop] at hm
 rcases hm with hm | hm
 ·exact key _ (wAll_of checkG) hm
 rw [← List.take_append_drop 10 (tabA.drop (33 + 12)), List.mem_append, List.drop_drop] at hm
 rcases hm with hm | hm
 ·exact key _ (wAll_of checkG2) hm
 ·exact key _ (wAll_of checkG3) hm
noncomputable def D3 : Ctr Tryz.E := D2.add 51 (fun
  | [.agg l] => bif okPat (flL l) && tabP.contains (rdPat (flL l)) then some (true, .ret (.int .i64 0) []) else none
  | _ => none) (by
   intro args pre out h hp
   split at h
   ·rename_i l
    cases hb : okPat (flL l) && tabP.contains (rdPat (flL l)) with
    | false => rw [hb] at h; simp at h
    | true =>
     rw [hb] at h
     simp only [cond_true, Option.some.injEq, Prod.mk.injEq] at h
     obtain ⟨rfl, rfl⟩ := h
     simp only [Bool.and_eq_true, List.contains_iff_mem] at hb
     exact HCall.args (patCheck_c _ hb.2) (by rw [pureL, okPat_pure hb.1]; rfl) fun ρ I w vs r => by
      obtain ⟨x, xs, rfl, k1, k2⟩ := RV_cons.1 r
      exact RV_cons.2 ⟨x, xs, rfl, leV_patL _ _ _ _ _ (arg_pat hb.1 _ _ _ _ k1), k2⟩
   ·simp at h)
theorem pick_lit (n m k : Int) (h1 : 0 < m) (h2 : m ≤ 1000) (h : n % m = k) : HCall Tryz.E 16 [.int .i64 n, .int .i64 m] (.ret (.int .i64 k) []) := by
 subst h
 exact upicked_c n m h1 (by omega)
noncomputable def pickK (T : Ctr Tryz.E) (k : Int) : Ctr Tryz.E := T.add 16 (fun
  | [.int .i64 n, .int .i64 m] => bif m == 6 then some (n % m == k, .ret (.int .i64 k) []) else some (decide (0 < m) && decide (m ≤ 64), altN (n % m) m.toNat 0)
  | _ => none) (by
   intro args pre out h hp
   split at h
   ·rename_i n m
    cases hb : m == 6 with
    | true =>
     rw [hb] at h
     simp only [cond_true, Option.some.injEq, Prod.mk.injEq] at h
     obtain ⟨rfl, rfl⟩ := h
     obtain rfl : m = 6 := by simpa using hb
     exact pick_lit _ _ _ (by decide) (by decide) (by simpa using hp)
    | false =>
     rw [hb] at h
     simp only [cond_false, Option.some.injEq, Prod.mk.injEq] at h
     obtain ⟨rfl, rfl⟩ := h
     simp only [Bool.and_eq_true, decide_eq_true_eq] at hp
     exact pick_alt _ _ hp.1 hp.2
   ·simp at h)
end Go.Proofs.YtehaohfglolljaaGreatDoor
namespace Go.Proofs.YtehaohfglolljaaGreatDoor
open Go Go.V Go.Fld Go.Pol Go.Cha Go.Bla
set_option maxRecDepth 100000
noncomputable def symSF (has : Bool) (ck : List UInt8) (n : UInt64) (hash b : List UInt8) : List UInt8 := bif has then sealS ck (cnonceS n) hash b else b
noncomputable def symS : Bool → List UInt8 → UInt64 → List UInt8 → List UInt8 → List UInt8 := (sealed symSF).val
theorem symS_eq : symS = symSF := by rw [symS, (sealed symSF).property]
noncomputable def symOF (has : Bool) (ck : List UInt8) (n : UInt64) (b : List UInt8) : List UInt8 := bif has then plainS ck (cnonceS n) b else b
noncomputable def symO : Bool → List UInt8 → UInt64 → List UInt8 → List UInt8 := (sealed symOF).val
theorem symO_eq : symO = symOF := by rw [symO, (sealed symOF).property]
noncomputable def symNF (has : Bool) (n : UInt64) : UInt64 := bif has then n + 1 else n
noncomputable def symN : Bool → UInt64 → UInt64 := (sealed symNF).val
theorem symN_eq : symN = symNF := by rw [symN, (sealed symNF).property]
noncomputable def symKF (has : Bool) (ck : List UInt8) (n : UInt64) : Bool := bif has then !maxB n else nilC ck n
noncomputable def symK : Bool → List UInt8 → UInt64 → Bool := (sealed symKF).val
theorem symK_eq : symK = symKF := by rw [symK, (sealed symKF).property]
noncomputable def symBF (has : Bool) (ck : List UInt8) (n : UInt64) (hash b : List UInt8) : Bool := bif has then leB 16 b.length && !(badS ck (cnonceS n) hash b) else true
noncomputable def symB : Bool → List UInt8 → UInt64 → List UInt8 → List UInt8 → Bool := (sealed symBF).val
theorem symB_eq : symB = symBF := by rw [symB, (sealed symBF).property]
noncomputable def sealO' (has : Bool) (ck : List UInt8) (n : UInt64) (chain hash b : List UInt8) : Out :=
 .ret (.tup [symV has ck (symN has n) chain (sumS (hash ++ symS has ck n hash b)), .sl 0 0 1 (symS has ck n hash b).length, .int .i64 0]) [.grow8 (symS has ck n hash b) []]
noncomputable def openO' (has : Bool) (ck : List UInt8) (n : UInt64) (chain hash b : List UInt8) : Out :=
 .ret (.tup [symV has ck (symN has n) chain (sumS (hash ++ b)), .sl 0 0 1 (symO has ck n b).length, .int .i64 0]) [.grow8 (symO has ck n b) []]
theorem yseal_c (chain hash ck b : List UInt8) (has fb : Bool) (n : UInt64) (h1 : hash.length ≤ 200) (h2 : b.length ≤ 800) (h3 : symK has ck n = true) :
  HCall Tryz.E 54 [.agg [.bool has, .b8 32 ck, .u64 n, .b8 32 chain, .b8 32 hash], .vec8 fb b] (sealO' has ck n chain hash b) := by
 refine HCall.of_walk (R := RQ) (T := Y3) (fun f l => .unroll 5) 5 rfl rfl ?_
 rw [yseal_eq]
 dsimp only
 unfold sealO'
 rw [symS_eq, symN_eq]
 rw [symK_eq] at h3
 rw [ltB_no (by omega), ltB_no (by omega)]
 cases has with
 | true =>
  have h3 : maxB n = false := by simpa [symKF] using h3
  have hl := length_sealS ck (cnonceS n) hash b
  have e1 : List.take (b.length + 16) (List.drop 0 (sealS ck (cnonceS n) hash b)) = sealS ck (cnonceS n) hash b := by rw [← hl, List.drop_zero, List.take_length]
  rw [h3, e1, leB_of (by omega), leB_of (by omega), ← hl]
  exact ⟨rfl, rfl⟩
 | false =>
  have h3 : nilC ck n = true := by simpa [symKF] using h3
  rw [h3, all8, leB_of (a := 0 + b.length) (by omega), leB_of (a := hash.length + b.length) (by omega)]
  exact ⟨rfl, rfl⟩
theorem yopen_c (chain hash ck b : List UInt8) (has fb : Bool) (n : UInt64) (h1 : hash.length ≤ 200) (h2 : b.length ≤ 800) (h3 : symK has ck n = true) (h4 : symB has ck n hash b = true) :
  HCall Tryz.E 57 [.agg [.bool has, .b8 32 ck, .u64 n, .b8 32 chain, .b8 32 hash], .vec8 fb b] (openO' has ck n chain hash b) := by
 refine HCall.of_walk (R := RQ) (T := Y3) (fun f l => .unroll 5) 5 rfl rfl ?_
 rw [yopen_eq]
 dsimp only
 unfold openO'
 rw [symO_eq, symN_eq]
 rw [symK_eq] at h3
 rw [symB_eq] at h4
 rw [ltB_no (a := 800) (by omega), ltB_no (a := 200) (by omega), ltB_no (a := 816) (by omega), leB_of (a := b.length) (by omega), leB_of (a := hash.length + b.length) (by omega)]
 cases has with
 | true =>
  have h3 : maxB n = false := by simpa [symKF] using h3
  have h4 : (leB 16 b.length && !(badS ck (cnonceS n) hash b)) = true := by simpa [symBF] using h4
  simp only [Bool.and_eq_true, Bool.not_eq_true'] at h4
  have hl : (plainS ck (cnonceS n) b).length = b.length - 16 := length_plainS _ _ _
  rw [h3, ltB_no (leB_iff.1 h4.1), h4.2, ← hl]
  exact ⟨rfl, rfl⟩
 | false =>
  have h3 : nilC ck n = true := by simpa [symKF] using h3
  rw [h3]
  exact ⟨rfl, rfl⟩
def zero32' : List UInt8 := [0, 0, 0, 0, 0, 0, 0, 0, 0, 0, 0, 0, 0, 0, 0, 0, 0, 0, 0, 0, 0, 0, 0, 0, 0, 0, 0, 0, 0, 0, 0, 0]
noncomputable def nameF (s : List UInt8) : List UInt8 := bif ltB 32 s.length then sumS s else List.take 32 s ++ List.drop (min s.length 32) zero32'
noncomputable def nameS : List UInt8 → List UInt8 := (sealed nameF).val
theorem nameS_eq : nameS = nameF := by rw [nameS, (sealed nameF).property]
theorem ybegin_c (s : List UInt8) (h : s.length ≤ 1000000) : HCall Tryz.E 19 [.str s] (.ret (symV false zero32' 0 (nameS s) (nameS s)) []) := by
 refine HCall.weak (a := AV.agg [AV.agg [AV.bool false, AV.b8 32 zero32', AV.u64 0], AV.b8 32 (nameS s), AV.b8 32 (nameS s)]) ?_ (leV_flat _) rfl
 refine HCall.of_walk (R := RQ) (T := Y1) (fun _ _ => .unroll 5) 5 rfl rfl ?_
 rw [ybegin_eq, nameS_eq]
 unfold nameF
 dsimp only
 rw [show ltI 32 ((s.length : Nat) : Int) = ltB 32 s.length from rfl, leB_of (a := 0 + s.length) (by omega), all8, leB_of (a := s.length) (by omega)]
 cases ltB 32 s.length with
 | true => exact ⟨rfl, rfl⟩
 | false => exact ⟨rfl, rfl⟩
theorem ysplit_c (chain hash ck : List UInt8) (has : Bool) (n : UInt64) (h : chain.length ≤ 64) :
  HCall Tryz.E 30 [.agg [.bool has, .b8 32 ck, .u64 n, .b8 32 chain, .b8 32 hash]] (.ret (.agg [.bool true, .b8 32 (key1 chain []), .u64 0, .bool true, .b8 32 (key2 chain []), .u64 0]) []) := by
 refine HCall.weak (a := AV.agg [AV.agg [AV.bool true, AV.b8 32 (key1 chain []), AV.u64 0], AV.agg [AV.bool true, AV.b8 32 (key2 chain []), AV.u64 0]]) ?_ (leV_flat _) rfl
 refine HCall.of_walk (R := RQ) (T := Y1) (fun _ _ => .unroll 5) 5 rfl rfl ?_
 rw [ysplit_eq, leB_of h]
 exact ⟨rfl, rfl⟩
noncomputable def Y4 : Ctr Tryz.E := (((Y3.add 54 (fun
  | [.agg [.bool has, .b8 32 ck, .u64 n, .b8 32 chain, .b8 32 hash], .vec8 _ b] => some (leB hash.length 200 && (leB b.length 800 && symK has ck n), sealO' has ck n chain hash b)
  | _ => none) (by
   intro args pre out h hp
   split at h
   ·simp only [Option.some.injEq, Prod.mk.injEq] at h
    obtain ⟨rfl, rfl⟩ := h
    simp only [Bool.and_eq_true] at hp
    exact yseal_c _ _ _ _ _ _ _ (leB_iff.1 hp.1) (leB_iff.1 hp.2.1) hp.2.2
   ·simp at h)).add 57 (fun
  | [.agg [.bool has, .b8 32 ck, .u64 n, .b8 32 chain, .b8 32 hash], .vec8 _ b] => some (leB hash.length 200 && (leB b.length 800 && (symK has ck n && symB has ck n hash b)), openO' has ck n chain hash b)
  | _ => none) (by
   intro args pre out h hp
   split at h
   ·simp only [Option.some.injEq, Prod.mk.injEq] at h
    obtain ⟨rfl, rfl⟩ := h
    simp only [Bool.and_eq_true] at hp
    exact yopen_c _ _ _ _ _ _ _ (leB_iff.1 hp.1) (leB_iff.1 hp.2.1) hp.2.2.1 hp.2.2.2
   ·simp at h)).add 19 (fun
  | [.str s] => some (leB s.length 1000000, .ret (symV false zero32' 0 (nameS s) (nameS s)) [])
  | _ => none) (by
   intro args pre out h hp
   split at h
   ·simp only [Option.some.injEq, Prod.mk.injEq] at h
    obtain ⟨rfl, rfl⟩ := h
    exact ybegin_c _ (leB_iff.1 hp)
   ·simp at h)).add 30 (fun
  | [.agg [.bool has, .b8 32 ck, .u64 n, .b8 32 chain, .b8 32 hash]] => some (leB chain.length 64, .ret (.agg [.bool true, .b8 32 (key1 chain []), .u64 0, .bool true, .b8 32 (key2 chain []), .u64 0]) [])
  | _ => none) (by
   intro args pre out h hp
   split at h
   ·simp only [Option.some.injEq, Prod.mk.injEq] at h
    obtain ⟨rfl, rfl⟩ := h
    exact ysplit_c _ _ _ _ _ (leB_iff.1 hp)
   ·simp at h)
end Go.Proofs.YtehaohfglolljaaGreatDoor