import Derived.Test.YtehaohfglolljaaDoorZzag
import Derived.Test.YtehaohfglolljaaDoorZzak
import Derived.Test.YtehaohfglolljaaDoorZzah
import Derived.Test.YtehaohfglolljaaDoorZzaf
import Derived.Test.YtehaohfglolljaaDoorZzam
import Derived.Test.YtehaohfglolljaaDoorZzab
import Derived.Test.YtehaohfglolljaaDoorZzai
import Derived.Test.YtehaohfglolljaaDoorZzac
set_option linter.unusedSimpArgs false
set_option linter.unusedVariables false
namespace Go.Proofs.YtehaohfglolljaaDoor
open Go Go.V
set_option maxHeartbeats 0
set_option maxRecDepth 100000
theorem ucut_eq (s : List UInt8) (m : Int) (K : AV → Heap → Prop) : walk Tryd.E (ROps.rows Tryd.E) (Ctr.nil Tryd.E).C (fun _ _ => .unroll 17) 5 9 [.str s, .int .i64 m] K = (
 let x0 : Nat := (List.length s)
 let x1 : Int := ((x0 : Nat) : Int)
 cnd (sliceOk Option.none (Option.some (cond false (Max.max x1 m) (Min.min x1 m))) x0)
 (K (AV.str (sliceL Option.none (Option.some (cond false (Max.max x1 m) (Min.min x1 m))) s)) [])) := by kernel_rfl
theorem ucut_c (s : List UInt8) (m : Int) (hm : 0 ≤ m) : HCall Tryd.E 9 [.str s, .int .i64 m] (.ret (.str (s.take m.toNat)) []) := by
 refine HCall.of_walk (R := ROps.rows Tryd.E) (T := Ctr.nil Tryd.E) (fun _ _ => .unroll 17) 5 rfl rfl ?_
 rw [ucut_eq]
 dsimp only
 rw [ucutOk _ _ hm, ucutL _ _ hm]
 exact ⟨rfl, rfl⟩
noncomputable def Ucut : Ctr Tryd.E := (Ctr.nil Tryd.E).add 9 (fun
  | [.str s, .int .i64 m] => some (nnB m, .ret (.str (s.take m.toNat)) [])
  | _ => none) (by
   intro args pre out h hp
   split at h
   ·simp only [Option.some.injEq, Prod.mk.injEq] at h
    obtain ⟨rfl, rfl⟩ := h
    exact ucut_c _ _ (nnB_iff.1 hp)
   ·simp at h)
theorem usome_eq (full : Bool) (n : Nat) (f : Nat → List AV) (m : Int) (K : AV → Heap → Prop) : walk Tryd.E (ROps.rows Tryd.E) (Ctr.nil Tryd.E).C (fun _ _ => .unroll 17) 5 7 [.vecr full 4 n f, .int .i64 m] K = (
 let x0 : Int := ((n : Nat) : Int)
 cnd (true && (sliceOk Option.none (Option.some (cond false (Max.max x0 m) (Min.min x0 m))) n))
 (K (AV.vecr (full && false) 4 ((hiN n (Option.some (cond false (Max.max x0 m) (Min.min x0 m)))) - 0) (fun i => f ((loN Option.none) + i))) [])) := by kernel_rfl
theorem usome_c (full : Bool) (n : Nat) (f : Nat → List AV) (m : Int) (hm : 0 ≤ m) : HCall Tryd.E 7 [.vecr full 4 n f, .int .i64 m] (.ret (.vecr false 4 (min n m.toNat) f) []) := by
 refine HCall.of_walk (R := ROps.rows Tryd.E) (T := Ctr.nil Tryd.E) (fun _ _ => .unroll 17) 5 rfl rfl ?_
 rw [usome_eq]
 dsimp only
 have e3 : (fun i => f (loN none + i)) = f := by
  funext i
  show f (0 + i) = f i
  rw [Nat.zero_add]
 rw [usomeOk n m hm, usomeN n m hm, e3, Bool.and_false]
 exact ⟨rfl, rfl⟩
noncomputable def Usome : Ctr Tryd.E := (Ctr.nil Tryd.E).add 7 (fun
  | [.vecr _ 4 n f, .int .i64 m] => some (nnB m, .ret (.vecr false 4 (min n m.toNat) f) [])
  | _ => none) (by
   intro args pre out h hp
   split at h
   ·simp only [Option.some.injEq, Prod.mk.injEq] at h
    obtain ⟨rfl, rfl⟩ := h
    exact usome_c _ _ _ _ (nnB_iff.1 hp)
   ·simp at h)
theorem upicked_w (n m : Int) (K : AV → Heap → Prop) : walk Tryd.E (ROps.rows Tryd.E) (Ctr.nil Tryd.E).C (fun _ _ => .unroll 6) 3 8 [.int .i64 n, .int .i64 m] K =
  cnd (m != 0) (ite2 (ltI (n.tmod m) 0) (K (.int .i64 (wr .i64 (n.tmod m + m))) []) (K (.int .i64 (n.tmod m)) [])) := by kernel_rfl
theorem upicked_c (n m : Int) (h1 : 0 < m) (h2 : m ≤ 9223372036854775807) : HCall Tryd.E 8 [.int .i64 n, .int .i64 m] (.ret (.int .i64 (n % m)) []) := by
 refine HCall.of_walk (R := ROps.rows Tryd.E) (T := Ctr.nil Tryd.E) (fun _ _ => .unroll 6) 3 rfl rfl ?_
 rw [upicked_w, cnd_eq, ltI_eq, wr_eq]
 refine ⟨by simp; omega, ?_⟩
 have e := pick_val (n := n) h1
 have h6 := Int.emod_nonneg n (show m ≠ 0 by omega)
 have h7 := Int.emod_lt_of_pos n h1
 rw [ite2_eq]
 refine ⟨fun h => ?_, fun h => ?_⟩
 ·rw [if_pos (of_decide_eq_true h)] at e
  rw [e, wrapI (by omega) (by omega)]; exact ⟨rfl, rfl⟩
 ·rw [if_neg (of_decide_eq_false h)] at e
  rw [e]; exact ⟨rfl, rfl⟩
noncomputable def Upicked : Ctr Tryd.E := (Ctr.nil Tryd.E).add 8 (fun
  | [.int .i64 n, .int .i64 m] => some (decide (0 < m) && decide (m ≤ 9223372036854775807), .ret (.int .i64 (n % m)) [])
  | _ => none) (by
   intro args pre out h hp
   split at h
   ·simp only [Option.some.injEq, Prod.mk.injEq] at h
    obtain ⟨rfl, rfl⟩ := h
    simp only [Bool.and_eq_true, decide_eq_true_eq] at hp
    exact upicked_c _ _ hp.1 hp.2
   ·simp at h)
end Go.Proofs.YtehaohfglolljaaDoor
namespace Go.Proofs.YtehaohfglolljaaDoor
open Go Go.V Go.Fld Go.Pol Go.Cha Go.Bla
noncomputable def RT : ROps Tryd.E := ROps.cold0 Tryd.E
noncomputable def W0 : Ctr Tryd.E := Ctr.or K4 (Ctr.or S3 M1)
set_option maxHeartbeats 0
set_option maxRecDepth 100000
theorem rtwo_eq (fb : Bool) (chain b : List UInt8) (K : AV → Heap → Prop) : walk Tryd.E RT W0.C (fun _ _ => .unroll 6) 4 33 [.b8 32 chain, .vec8 fb b] K = (
 cnd ((leB (List.length chain) 64) && (leB (List.length b) 100000))
 (K (AV.agg [AV.b8 32 (key1 chain b), AV.b8 32 (key2 chain b)]) [])) := by kernel_rfl
theorem rnext_eq (chain : List UInt8) (K : AV → Heap → Prop) : walk Tryd.E RT W0.C (fun _ _ => .unroll 6) 4 19 [.b8 32 chain] K = (
 let x0 : Bool := (leB (List.length chain) 64) && true
 cnd (x0)
 (cnd (x0)
 (K (AV.tup [AV.b8 32 (macS chain (List.take 1 (List.drop 0 [1]))), AV.b8 32 (macS chain (List.take 1 (List.drop 0 [2])))]) []))) := by kernel_rfl
theorem rbytes_eq (key : List UInt8) (last n : Int) (K : AV → Heap → Prop) : walk Tryd.E RT W0.C (fun _ _ => .unroll 6) 4 18 [.agg [.b8 32 key, .int .i64 last, .int .i64 n]] K = (
 let x0 : Nat := (List.length key)
 let x1 : Nat := 140737488355328
 let x2 : List UInt8 := (List.replicate 4 0)
 let x3 : List UInt8 := (key ++ (List.take 4 (List.drop 0 (List.set (List.set (List.set (List.set x2 0 (UInt8.ofNat (Int.toNat ((Int.fdiv last 16777216) % 256)))) 1 (UInt8.ofNat (Int.toNat ((Int.fdiv last 65536) % 256)))) 2 (UInt8.ofNat (Int.toNat ((Int.fdiv last 256) % 256)))) 3 (UInt8.ofNat (Int.toNat (last % 256)))))))
 let x4 : Nat := ((x0 + 4) + 4)
 ite2 (ltI last 0)
 (K (AV.tup [AV.vec8 true [], AV.int .i64 6]) [])
 (ite2 (cond false true (ltI 1073741824 last))
 (K (AV.tup [AV.vec8 true [], AV.int .i64 6]) [])
 (ite2 (cond false true (ltI n 0))
 (K (AV.tup [AV.vec8 true [], AV.int .i64 6]) [])
 (ite2 (cond false true (ltI 1073741824 n))
 (K (AV.tup [AV.vec8 true [], AV.int .i64 6]) [])
 (cnd (leB (x0 * 1) x1)
 (cnd (x0 == x0)
 (cnd (leB ((x0 + 4) * 1) x1)
 (cnd ((x0 + 4) == (List.length x3))
 (cnd (leB (x4 * 1) x1)
 (K (AV.tup [AV.sl 0 0 1 x4, AV.int .i64 0]) [Ent.grow8 (x3 ++ (List.take 4 (List.drop 0 (List.set (List.set (List.set (List.set x2 0 (UInt8.ofNat (Int.toNat ((Int.fdiv n 16777216) % 256)))) 1 (UInt8.ofNat (Int.toNat ((Int.fdiv n 65536) % 256)))) 2 (UInt8.ofNat (Int.toNat ((Int.fdiv n 256) % 256)))) 3 (UInt8.ofNat (Int.toNat (n % 256))))))) []])))))))))) := by kernel_rfl
theorem rbeside_eq (fa fb : Bool) (a b : List UInt8) (K : AV → Heap → Prop) : walk Tryd.E RT W0.C (fun _ _ => .unroll 6) 4 21 [.vec8 fa a, .vec8 fb b] K = (
 let x0 : Nat := (List.length a)
 let x1 : Nat := 140737488355328
 let x2 : Nat := (x0 + (List.length b))
 cnd (leB (x0 * 1) x1)
 (cnd (x0 == x0)
 (cnd (leB (x2 * 1) x1)
 (K (AV.sl 0 0 1 x2) [Ent.grow8 (a ++ b) []])))) := by kernel_rfl
theorem rsecond_eq (root own : List UInt8) (K : AV → Heap → Prop) : walk Tryd.E RT W0.C (fun _ _ => .unroll 6) 4 17 [.b8 32 root, .b8 32 own] K = (
 K (AV.agg [AV.b8 32 root, AV.b8 32 own, AV.b8 32 [0, 0, 0, 0, 0, 0, 0, 0, 0, 0, 0, 0, 0, 0, 0, 0, 0, 0, 0, 0, 0, 0, 0, 0, 0, 0, 0, 0, 0, 0, 0, 0], AV.b8 32 [0, 0, 0, 0, 0, 0, 0, 0, 0, 0, 0, 0, 0, 0, 0, 0, 0, 0, 0, 0, 0, 0, 0, 0, 0, 0, 0, 0, 0, 0, 0, 0], AV.int .i64 0, AV.b8 32 [0, 0, 0, 0, 0, 0, 0, 0, 0, 0, 0, 0, 0, 0, 0, 0, 0, 0, 0, 0, 0, 0, 0, 0, 0, 0, 0, 0, 0, 0, 0, 0], AV.int .i64 0, AV.int .i64 0, AV.bool false, AV.bool false, AV.vec true 65 []]) []) := by kernel_rfl
end Go.Proofs.YtehaohfglolljaaDoor
namespace Go.Proofs.YtehaohfglolljaaDoor
open Go Go.V Go.Fld Go.Pol Go.Cha Go.Bla Go.Rat
set_option maxRecDepth 100000
theorem rtwo_c (fb : Bool) (chain b : List UInt8) (hb : b.length ≤ 100000) : HCall Tryd.E 33 [.b8 32 chain, .vec8 fb b] (.ret (.agg [.b8 32 (key1 chain b), .b8 32 (key2 chain b)]) []) := by
 refine HCall.of_len rfl rfl fun hl => ?_
 have h1 : chain.length = 32 := hl (.b8 32 chain) (by simp)
 refine HCall.of_walk (R := RT) (T := W0) (fun _ _ => .unroll 6) 4 rfl rfl ?_
 rw [rtwo_eq, leB_of (by omega), leB_of hb]
 exact ⟨rfl, rfl⟩
noncomputable def kmS : List UInt8 → List UInt8 := (sealed fun c => macS c [1]).val
noncomputable def kcS : List UInt8 → List UInt8 := (sealed fun c => macS c [2]).val
theorem kmS_eq (c : List UInt8) : kmS c = macS c [1] := by rw [kmS, (sealed fun c => macS c [1]).property]
theorem kcS_eq (c : List UInt8) : kcS c = macS c [2] := by rw [kcS, (sealed fun c => macS c [2]).property]
theorem rnext_c (chain : List UInt8) : HCall Tryd.E 19 [.b8 32 chain] (.ret (.tup [.b8 32 (kmS chain), .b8 32 (kcS chain)]) []) := by
 refine HCall.of_len rfl rfl fun hl => ?_
 have h1 : chain.length = 32 := hl (.b8 32 chain) (by simp)
 refine HCall.of_walk (R := RT) (T := W0) (fun _ _ => .unroll 6) 4 rfl rfl ?_
 rw [rnext_eq, leB_of (by omega), kmS_eq, kcS_eq]
 exact ⟨rfl, rfl⟩
theorem rbeside_c (fa fb : Bool) (a b : List UInt8) (ha : a.length ≤ 100000) (hb : b.length ≤ 100000) : HCall Tryd.E 21 [.vec8 fa a, .vec8 fb b] (.ret (.vec8 false (a ++ b)) []) := by
 refine HCall.of_walkC (R := RT) (T := W0) (fun _ _ => .unroll 6) 4 rfl rfl ?_
 rw [rbeside_eq]
 dsimp only
 rw [leB_of (by omega), leB_of (by omega), beq_self_eq_true]
 refine okOut.cold (v' := .vec8 false (a ++ b)) (u := [(0, .grow8 (a ++ b) [(0, a.length + b.length)])]) ?_ (leV.refl _) rfl ⟨rfl, rfl⟩
 simp only [coldT, coldA_sl (show a.length + b.length = (a ++ b).length by simp)]
noncomputable def headF (k : List UInt8) (last n : Int) : List UInt8 :=
 (k ++ [UInt8.ofNat (Int.toNat ((Int.fdiv last 16777216) % 256)), UInt8.ofNat (Int.toNat ((Int.fdiv last 65536) % 256)), UInt8.ofNat (Int.toNat ((Int.fdiv last 256) % 256)), UInt8.ofNat (Int.toNat (last % 256))])
  ++ [UInt8.ofNat (Int.toNat ((Int.fdiv n 16777216) % 256)), UInt8.ofNat (Int.toNat ((Int.fdiv n 65536) % 256)), UInt8.ofNat (Int.toNat ((Int.fdiv n 256) % 256)), UInt8.ofNat (Int.toNat (n % 256))]
noncomputable def headS : List UInt8 → Int → Int → List UInt8 := (sealed headF).val
theorem headS_eq (k : List UInt8) (last n : Int) : headS k last n = headF k last n := by rw [headS, (sealed headF).property]
theorem length_headS {k : List UInt8} (h : k.length = 32) (last n : Int) : (headS k last n).length = 40 := by rw [headS_eq]; simp [headF, h]
noncomputable def headO (k : List UInt8) (last n : Int) : Out := .alt (inN last && inN n) (.ret (.tup [.vec8 false (headS k last n), .int .i64 0]) []) (.ret (.tup [.vec8 true [], .int .i64 6]) [])
theorem rbytes_c (k : List UInt8) (last n : Int) : HCall Tryd.E 18 [.agg [.b8 32 k, .int .i64 last, .int .i64 n]] (headO k last n) := by
 refine HCall.of_lens rfl rfl fun hl => ?_
 have h1 : k.length = 32 := hl _ (List.mem_singleton.2 rfl) (.b8 32 k) (by simp)
 refine HCall.of_walkC (R := RT) (T := W0) (fun _ _ => .unroll 6) 4 rfl rfl ?_
 rw [rbytes_eq]
 dsimp only
 have bad : (inN last && inN n) = false → okOut (headO k last n) (.tup [.vec8 true [], .int .i64 6]) [] := fun h => by
  unfold headO; rw [h]; exact okOut.here ⟨rfl, rfl⟩
 have good : (inN last && inN n) = true → okOut (headO k last n) (.tup [.sl 0 0 1 ((k.length + 4) + 4), .int .i64 0]) [.grow8 (headF k last n) []] := fun h => by
  unfold headO; rw [h]
  rw [← headS_eq]
  refine okOut.cold (v' := .tup [.vec8 false (headS k last n), .int .i64 0]) (u := [(0, .grow8 (headS k last n) [(0, (k.length + 4) + 4)])]) ?_ (leV.refl _) rfl ⟨rfl, rfl⟩
  simp only [coldT, coldL, coldA_sl (show (k.length + 4) + 4 = (headS k last n).length by rw [length_headS h1, h1])]
  rfl
 simp only [ite2_eq, cnd_eq, cond_true, cond_false, ltI_eq, decide_eq_true_eq, decide_eq_false_iff_not, Bool.cond_true_right, Bool.cond_false_right, Bool.or_false, Bool.and_false, leB_iff, beq_self_eq_true]
 have e1 : ∀ a b : Int, a < 0 ∨ 1073741824 < a ∨ b < 0 ∨ 1073741824 < b → (inN a && inN b) = false := fun a b h => by
  cases hb : (inN a && inN b) with
  | false => rfl
  | true => rw [Bool.and_eq_true, inN_iff, inN_iff] at hb; omega
 refine ⟨fun h => bad (e1 _ _ (by omega)), fun h => ⟨fun h2 => bad (e1 _ _ (by simpa using Or.inr (Or.inl h2))), fun h2 => ⟨fun h3 => bad (e1 _ _ (by omega)), fun h3 => ⟨fun h4 => bad (e1 _ _ (by simpa using Or.inr (Or.inr (Or.inr h4)))), fun h4 => ⟨by omega, trivial, by omega, ?_, by omega, ?_⟩⟩⟩⟩⟩
 ·simp
 ·have : (inN last && inN n) = true := by
   rw [Bool.and_eq_true, inN_iff, inN_iff]
   omega
  exact good this
noncomputable def sealV (k n a b : List UInt8) : Out := .alt (ltB 200 a.length || ltB 800 b.length) (nilErr 1) (.ret (.tup [.vec8 false (sealS k n a b), .int .i64 0]) [])
theorem vec8_of {l : List UInt8} {n : Nat} (h : n = l.length) {e : Int} : okOut (.ret (.tup [.vec8 false l, .int .i64 e]) []) (.tup [.sl 0 0 1 n, .int .i64 e]) [.grow8 l []] := by
 refine okOut.cold (v' := .tup [.vec8 false l, .int .i64 e]) (u := [(0, .grow8 l [(0, n)])]) ?_ (leV.refl _) rfl ⟨rfl, rfl⟩
 simp only [coldT, coldL, coldA_sl h]
 rfl
noncomputable def openV (k n a b : List UInt8) : Out := .alt (ltB 200 a.length || ltB 816 b.length) (nilErr 1) (.alt (ltB b.length 16) (nilErr 4) (.alt (badS k n a b) (nilErr 10) (.ret (.tup [.vec8 false (plainS k n b), .int .i64 0]) [])))
theorem HCall.vec {f : FuncId} {args : List AV} {o o' : Out} (h : HCall Tryd.E f args o) (hle : ∀ v H, o.has v H → okOut o' v H) (ho : o'.okB = true) : HCall Tryd.E f args o' := by
 refine ⟨h.pa, ho, fun ρ I w vs c r => (h.call ρ I w vs c r).mono ?_⟩
 rintro e w' ⟨x, rfl, ρ', I', v, H', gd, c', hr, hh⟩
 rcases hle _ _ hh with hh | ⟨v', v'', u, h1, h2, h3, h4⟩
 ·exact ⟨x, rfl, ρ', I', v, H', gd, c', hr, hh⟩
 ·obtain ⟨I2, f1, f2, f3, f4⟩ := coldT_sound v I' H' c' (by rw [h1])
  rw [h1] at f1 f2 f4
  obtain ⟨c2, g2⟩ := cut_conc f2 0 (fun e he => by simp at he)
  exact ⟨x, rfl, cutR 0 ρ', I2, v'', [], g2 (gd.trans f1) (fun id h => absurd (c.dom id h) (by simp)) (Nat.le_refl _), c2, rel_pure h3 (h2 _ _ _ _ (f4 _ hr)), h4⟩
theorem sealV_c (k n a b : List UInt8) (fa fb : Bool) : HCall Tryd.E 20 [.b8 32 k, .b8 12 n, .vec8 fa a, .vec8 fb b] (sealV k n a b) := by
 refine HCall.vec (sealSeal_c k n a b fa fb) (fun v H h => ?_) rfl
 unfold sealO at h
 unfold sealV
 refine okOut.alt (fun e => ?_) fun e => ?_
 ·rw [e] at h; exact okOut.here h
 ·rw [e] at h
  obtain ⟨rfl, rfl⟩ := h
  exact vec8_of (by rw [length_sealS])
theorem openV_c (k n a b : List UInt8) (fa fb : Bool) (hb : b.length ≤ 1000000000) : HCall Tryd.E 26 [.b8 32 k, .b8 12 n, .vec8 fa a, .vec8 fb b] (openV k n a b) := by
 refine HCall.vec (sealOpen_c k n a b fa fb hb) (fun v H h => ?_) rfl
 unfold openO at h
 unfold openV
 refine okOut.alt (fun e => ?_) fun e => ?_
 ·rw [e] at h; exact okOut.here h
 rw [e] at h
 replace h := (show Out.has _ v H from h)
 refine okOut.alt (fun e => ?_) fun e => ?_
 ·rw [e] at h; exact okOut.here h
 rw [e] at h
 refine okOut.alt (fun e => ?_) fun e => ?_
 ·rw [e] at h; exact okOut.here h
 rw [e] at h
 obtain ⟨rfl, rfl⟩ := h
 exact vec8_of (by rw [length_plainS])
noncomputable def W1 : Ctr Tryd.E := (((((((Ctr.nil Tryd.E).add 33 (fun
  | [.b8 32 chain, .vec8 _ b] => some (leB b.length 100000, .ret (.agg [.b8 32 (key1 chain b), .b8 32 (key2 chain b)]) [])
  | _ => none) (by
   intro args pre out h hp
   split at h
   ·simp only [Option.some.injEq, Prod.mk.injEq] at h
    obtain ⟨rfl, rfl⟩ := h
    exact rtwo_c _ _ _ (leB_iff.1 hp)
   ·simp at h)).add 19 (fun
  | [.b8 32 chain] => some (true, .ret (.tup [.b8 32 (kmS chain), .b8 32 (kcS chain)]) [])
  | _ => none) (by
   intro args pre out h hp
   split at h
   ·simp only [Option.some.injEq, Prod.mk.injEq] at h
    obtain ⟨rfl, rfl⟩ := h
    exact rnext_c _
   ·simp at h)).add 21 (fun
  | [.vec8 _ a, .vec8 _ b] => some (leB a.length 100000 && leB b.length 100000, .ret (.vec8 false (a ++ b)) [])
  | _ => none) (by
   intro args pre out h hp
   split at h
   ·simp only [Option.some.injEq, Prod.mk.injEq] at h
    obtain ⟨rfl, rfl⟩ := h
    rw [Bool.and_eq_true] at hp
    exact rbeside_c _ _ _ _ (leB_iff.1 hp.1) (leB_iff.1 hp.2)
   ·simp at h)).add 18 (fun
  | [.agg [.b8 32 k, .int .i64 last, .int .i64 n]] => some (true, headO k last n)
  | _ => none) (by
   intro args pre out h hp
   split at h
   ·simp only [Option.some.injEq, Prod.mk.injEq] at h
    obtain ⟨rfl, rfl⟩ := h
    exact rbytes_c _ _ _
   ·simp at h)).add 20 (fun
  | [.b8 32 k, .b8 12 n, .vec8 _ a, .vec8 _ b] => some (true, sealV k n a b)
  | _ => none) (by
   intro args pre out h hp
   split at h
   ·simp only [Option.some.injEq, Prod.mk.injEq] at h
    obtain ⟨rfl, rfl⟩ := h
    exact sealV_c _ _ _ _ _ _
   ·simp at h)).add 26 (fun
  | [.b8 32 k, .b8 12 n, .vec8 _ a, .vec8 _ b] => some (leB b.length 1000000000, openV k n a b)
  | _ => none) (by
   intro args pre out h hp
   split at h
   ·simp only [Option.some.injEq, Prod.mk.injEq] at h
    obtain ⟨rfl, rfl⟩ := h
    exact openV_c _ _ _ _ _ _ (leB_iff.1 hp)
   ·simp at h)).or M1
def okO (L : List Kp) (g : List AV) (i : Nat) : Prop := match g with
 | [.int _ n] => (i : Int) ≤ n ∧ ∀ j, j < i → kpOk L j
 | _ => False
def okI (L : List Kp) (g : List AV) (j : Nat) : Prop := match g with
 | [.int _ i, .int _ n] => (j : Int) ≤ n ∧ ∀ m, m < j → ¬ ((L.getD m kp0).peer = (L.getD i.toNat kp0).peer ∧ (L.getD m kp0).n = (L.getD i.toNat kp0).n)
 | _ => False
theorem okO_iff {L : List Kp} {k : IntKind} {n : Int} {i : Nat} : okO L [.int k n] i ↔ (i : Int) ≤ n ∧ ∀ j, j < i → kpOk L j := Iff.rfl
theorem okI_iff {L : List Kp} {k k' : IntKind} {i n : Int} {j : Nat} : okI L [.int k i, .int k' n] j ↔ (j : Int) ≤ n ∧ ∀ m, m < j → ¬ ((L.getD m kp0).peer = (L.getD i.toNat kp0).peer ∧ (L.getD m kp0).n = (L.getD i.toNat kp0).n) := Iff.rfl
noncomputable def rchkL (L : List Kp) : Nat → LPlan
 | 5 => .rel [0, 1, 3, 34, 35] [35] Nat (okO L) Inv.up (fun i => [(36, .int .i64 ((i : Nat) : Int))]) (fun _ => [])
 | _ => .rel [0, 1, 3, 4, 5, 34, 35, 36, 49, 50] [36, 50] Nat (okI L) Inv.up (fun i => [(51, .int .i64 ((i : Nat) : Int))]) (fun _ => [])
set_option maxHeartbeats 0
theorem rturned_eq (root own peer : List UInt8) (K : AV → Heap → Prop) : walk Tryd.E RT W1.C (fun _ _ => .unroll 6) 4 28 [.b8 32 root, .b8 32 own, .b8 32 peer] K = (
 let x0 : List UInt8 := (dhS own peer)
 cnd (leB (List.length x0) 100000)
 (K (AV.tup [AV.b8 32 (key1 root x0), AV.b8 32 (key2 root x0), AV.bool (tellS own peer)]) [])) := by kernel_rfl
theorem rfirst_eq (root own peer : List UInt8) (K : AV → Heap → Prop) : walk Tryd.E RT W1.C (fun _ _ => .unroll 6) 4 15 [.b8 32 root, .b8 32 own, .b8 32 peer] K = (
 let x0 : List UInt8 := (dhS own peer)
 cnd (leB (List.length x0) 100000)
 (ite2 (Bool.not (tellS own peer))
 (K (AV.tup [AV.agg [AV.b8 32 [0, 0, 0, 0, 0, 0, 0, 0, 0, 0, 0, 0, 0, 0, 0, 0, 0, 0, 0, 0, 0, 0, 0, 0, 0, 0, 0, 0, 0, 0, 0, 0], AV.b8 32 [0, 0, 0, 0, 0, 0, 0, 0, 0, 0, 0, 0, 0, 0, 0, 0, 0, 0, 0, 0, 0, 0, 0, 0, 0, 0, 0, 0, 0, 0, 0, 0], AV.b8 32 [0, 0, 0, 0, 0, 0, 0, 0, 0, 0, 0, 0, 0, 0, 0, 0, 0, 0, 0, 0, 0, 0, 0, 0, 0, 0, 0, 0, 0, 0, 0, 0], AV.b8 32 [0, 0, 0, 0, 0, 0, 0, 0, 0, 0, 0, 0, 0, 0, 0, 0, 0, 0, 0, 0, 0, 0, 0, 0, 0, 0, 0, 0, 0, 0, 0, 0], AV.int .i64 0, AV.b8 32 [0, 0, 0, 0, 0, 0, 0, 0, 0, 0, 0, 0, 0, 0, 0, 0, 0, 0, 0, 0, 0, 0, 0, 0, 0, 0, 0, 0, 0, 0, 0, 0], AV.int .i64 0, AV.int .i64 0, AV.bool false, AV.bool false, AV.vec true 65 []], AV.int .i64 12]) [])
 (K (AV.tup [AV.agg [AV.b8 32 (key1 root x0), AV.b8 32 own, AV.b8 32 peer, AV.b8 32 (key2 root x0), AV.int .i64 0, AV.b8 32 [0, 0, 0, 0, 0, 0, 0, 0, 0, 0, 0, 0, 0, 0, 0, 0, 0, 0, 0, 0, 0, 0, 0, 0, 0, 0, 0, 0, 0, 0, 0, 0], AV.int .i64 0, AV.int .i64 0, AV.bool true, AV.bool false, AV.vec true 65 []], AV.int .i64 0]) []))) := by kernel_rfl
theorem rcheck_eq (root own peer send : List UInt8) (out : Int) (recv : List UInt8) (inn last : Int) (can hear full : Bool) (L : List Kp) (K : AV → Heap → Prop) : walk Tryd.E RT W1.C (fun _ r => rchkL L r) 4 13 [.agg [.b8 32 root, .b8 32 own, .b8 32 peer, .b8 32 send, .int .i64 out, .b8 32 recv, .int .i64 inn, .int .i64 last, .bool can, .bool hear, .vecr full 65 L.length (kcs L)]] K = (
 let x0 : Nat := (List.length L)
 let x1 : Int := ((x0 : Nat) : Int)
 let x2 : Bool := (full && false)
 let x3 : Nat := (loN Option.none)
 ite2 (Bool.not (ltI out 0))
 (ite2 (Bool.not (cond true (Bool.not (ltI 1073741824 out)) false))
 (K (AV.int .i64 9) [])
 (ite2 (Bool.not (ltI inn 0))
 (ite2 (cond false true (Bool.not (cond true (Bool.not (ltI 1073741824 inn)) false)))
 (K (AV.int .i64 9) [])
 (ite2 (Bool.not (ltI last 0))
 (ite2 (cond false true (Bool.not (cond true (Bool.not (ltI 1073741824 last)) false)))
 (K (AV.int .i64 9) [])
 (ite2 (cond false true (ltI 12 x1))
 (K (AV.int .i64 9) [])
 ((∃ w0 : Nat, (okO L [AV.int .i64 x1] w0) ∧ ((AV.agg [AV.b8 32 root, AV.b8 32 own, AV.b8 32 peer, AV.b8 32 send, AV.int .i64 out, AV.b8 32 recv, AV.int .i64 inn, AV.int .i64 last, AV.bool can, AV.bool hear, AV.vecr full 65 x0 (Rat.kcs L)] = AV.agg [AV.b8 32 root, AV.b8 32 own, AV.b8 32 peer, AV.b8 32 send, AV.int .i64 out, AV.b8 32 recv, AV.int .i64 inn, AV.int .i64 last, AV.bool can, AV.bool hear, AV.vecr full 65 x0 (Rat.kcs L)]) ∧ ((AV.fn (Fn.func 27) [] [] = AV.fn (Fn.func 27) [] []) ∧ ((AV.vecr full 65 x0 (Rat.kcs L) = AV.vecr full 65 x0 (Rat.kcs L)) ∧ ((AV.int .i64 x1 = AV.int .i64 x1) ∧ ((AV.int .i64 0 = AV.int .i64 ((w0 : Nat) : Int)) ∧ ((AV.b8 32 root = AV.b8 32 root) ∧ ((AV.b8 32 own = AV.b8 32 own) ∧ ((AV.b8 32 peer = AV.b8 32 peer) ∧ ((AV.b8 32 send = AV.b8 32 send) ∧ ((AV.int .i64 out = AV.int .i64 out) ∧ ((AV.b8 32 recv = AV.b8 32 recv) ∧ ((AV.int .i64 inn = AV.int .i64 inn) ∧ ((AV.int .i64 last = AV.int .i64 last) ∧ ((AV.bool can = AV.bool can) ∧ ((AV.bool hear = AV.bool hear) ∧ ((AV.vecr full 65 x0 (Rat.kcs L) = AV.vecr full 65 x0 (Rat.kcs L)) ∧ True))))))))))))))))) ∧ (∀ w1 : Nat, (okO L [AV.int .i64 x1] w1 → ite2 (ltI ((w1 : Nat) : Int) x1)
 (cnd ((inB ((w1 : Nat) : Int) x0) && true)
 (ite2 (Bool.not (ltI (Rat.Kp.n (List.getD L (Int.toNat ((w1 : Nat) : Int)) Rat.kp0)) 0))
 (ite2 (Bool.not (cond true (Bool.not (ltI 1073741824 (Rat.Kp.n (List.getD L (Int.toNat ((w1 : Nat) : Int)) Rat.kp0)))) false))
 (K (AV.int .i64 9) [])
 (cnd (true && (sliceOk Option.none (Option.some ((w1 : Nat) : Int)) x0))
 ((∃ w2 : Nat, (okI L [AV.int .i64 ((w1 : Nat) : Int), AV.int .i64 ((((hiN x0 (Option.some ((w1 : Nat) : Int))) - 0) : Nat) : Int)] w2) ∧ ((AV.agg [AV.b8 32 root, AV.b8 32 own, AV.b8 32 peer, AV.b8 32 send, AV.int .i64 out, AV.b8 32 recv, AV.int .i64 inn, AV.int .i64 last, AV.bool can, AV.bool hear, AV.vecr full 65 x0 (Rat.kcs L)] = AV.agg [AV.b8 32 root, AV.b8 32 own, AV.b8 32 peer, AV.b8 32 send, AV.int .i64 out, AV.b8 32 recv, AV.int .i64 inn, AV.int .i64 last, AV.bool can, AV.bool hear, AV.vecr full 65 x0 (Rat.kcs L)]) ∧ ((AV.fn (Fn.func 27) [] [] = AV.fn (Fn.func 27) [] []) ∧ ((AV.int .i64 ((w1 : Nat) : Int) = AV.int .i64 ((w1 : Nat) : Int)) ∧ ((AV.vecr full 65 x0 (Rat.kcs L) = AV.vecr full 65 x0 (Rat.kcs L)) ∧ ((AV.int .i64 x1 = AV.int .i64 x1) ∧ ((AV.int .i64 ((w1 : Nat) : Int) = AV.int .i64 ((w1 : Nat) : Int)) ∧ ((AV.vecr x2 65 ((hiN x0 (Option.some ((w1 : Nat) : Int))) - 0) (fun i => Rat.kcs L (x3 + i)) = AV.vecr x2 65 ((hiN x0 (Option.some ((w1 : Nat) : Int))) - 0) (fun i => Rat.kcs L (x3 + i))) ∧ ((AV.int .i64 ((((hiN x0 (Option.some ((w1 : Nat) : Int))) - 0) : Nat) : Int) = AV.int .i64 ((((hiN x0 (Option.some ((w1 : Nat) : Int))) - 0) : Nat) : Int)) ∧ ((AV.int .i64 0 = AV.int .i64 ((w2 : Nat) : Int)) ∧ ((AV.b8 32 root = AV.b8 32 root) ∧ ((AV.b8 32 own = AV.b8 32 own) ∧ ((AV.b8 32 peer = AV.b8 32 peer) ∧ ((AV.b8 32 send = AV.b8 32 send) ∧ ((AV.int .i64 out = AV.int .i64 out) ∧ ((AV.b8 32 recv = AV.b8 32 recv) ∧ ((AV.int .i64 inn = AV.int .i64 inn) ∧ ((AV.int .i64 last = AV.int .i64 last) ∧ ((AV.bool can = AV.bool can) ∧ ((AV.bool hear = AV.bool hear) ∧ ((AV.vecr full 65 x0 (Rat.kcs L) = AV.vecr full 65 x0 (Rat.kcs L)) ∧ ((AV.b8 32 (Rat.Kp.peer (List.getD L (Int.toNat ((w1 : Nat) : Int)) Rat.kp0)) = AV.b8 32 (Rat.Kp.peer (List.getD L (Int.toNat ((w1 : Nat) : Int)) Rat.kp0))) ∧ ((AV.int .i64 (Rat.Kp.n (List.getD L (Int.toNat ((w1 : Nat) : Int)) Rat.kp0)) = AV.int .i64 (Rat.Kp.n (List.getD L (Int.toNat ((w1 : Nat) : Int)) Rat.kp0))) ∧ ((AV.b8 32 (Rat.Kp.key (List.getD L (Int.toNat ((w1 : Nat) : Int)) Rat.kp0)) = AV.b8 32 (Rat.Kp.key (List.getD L (Int.toNat ((w1 : Nat) : Int)) Rat.kp0))) ∧ True)))))))))))))))))))))))) ∧ (∀ w3 : Nat, (okI L [AV.int .i64 ((w1 : Nat) : Int), AV.int .i64 ((((hiN x0 (Option.some ((w1 : Nat) : Int))) - 0) : Nat) : Int)] w3 → ite2 (ltI ((w3 : Nat) : Int) ((((hiN x0 (Option.some ((w1 : Nat) : Int))) - 0) : Nat) : Int))
 (cnd ((inB ((w3 : Nat) : Int) ((hiN x0 (Option.some ((w1 : Nat) : Int))) - 0)) && true)
 (ite2 ((Rat.Kp.peer (List.getD L (x3 + (Int.toNat ((w3 : Nat) : Int))) Rat.kp0)) == (Rat.Kp.peer (List.getD L (Int.toNat ((w1 : Nat) : Int)) Rat.kp0)))
 (ite2 (cond true ((Rat.Kp.n (List.getD L (x3 + (Int.toNat ((w3 : Nat) : Int))) Rat.kp0)) == (Rat.Kp.n (List.getD L (Int.toNat ((w1 : Nat) : Int)) Rat.kp0))) false)
 (K (AV.int .i64 9) [])
 ((∃ w4 : Nat, (((Inv.up w4) < (Inv.up w3)) ∧ (okI L [AV.int .i64 ((w1 : Nat) : Int), AV.int .i64 ((((hiN x0 (Option.some ((w1 : Nat) : Int))) - 0) : Nat) : Int)] w4)) ∧ ((AV.agg [AV.b8 32 root, AV.b8 32 own, AV.b8 32 peer, AV.b8 32 send, AV.int .i64 out, AV.b8 32 recv, AV.int .i64 inn, AV.int .i64 last, AV.bool can, AV.bool hear, AV.vecr full 65 x0 (Rat.kcs L)] = AV.agg [AV.b8 32 root, AV.b8 32 own, AV.b8 32 peer, AV.b8 32 send, AV.int .i64 out, AV.b8 32 recv, AV.int .i64 inn, AV.int .i64 last, AV.bool can, AV.bool hear, AV.vecr full 65 x0 (Rat.kcs L)]) ∧ ((AV.fn (Fn.func 27) [] [] = AV.fn (Fn.func 27) [] []) ∧ ((AV.int .i64 ((w1 : Nat) : Int) = AV.int .i64 ((w1 : Nat) : Int)) ∧ ((AV.vecr full 65 x0 (Rat.kcs L) = AV.vecr full 65 x0 (Rat.kcs L)) ∧ ((AV.int .i64 x1 = AV.int .i64 x1) ∧ ((AV.int .i64 ((w1 : Nat) : Int) = AV.int .i64 ((w1 : Nat) : Int)) ∧ ((AV.vecr x2 65 ((hiN x0 (Option.some ((w1 : Nat) : Int))) - 0) (fun i => Rat.kcs L (x3 + i)) = AV.vecr x2 65 ((hiN x0 (Option.some ((w1 : Nat) : Int))) - 0) (fun i => Rat.kcs L (x3 + i))) ∧ ((AV.int .i64 ((((hiN x0 (Option.some ((w1 : Nat) : Int))) - 0) : Nat) : Int) = AV.int .i64 ((((hiN x0 (Option.some ((w1 : Nat) : Int))) - 0) : Nat) : Int)) ∧ ((AV.int .i64 (wr .i64 (((w3 : Nat) : Int) + 1)) = AV.int .i64 ((w4 : Nat) : Int)) ∧ ((AV.b8 32 root = AV.b8 32 root) ∧ ((AV.b8 32 own = AV.b8 32 own) ∧ ((AV.b8 32 peer = AV.b8 32 peer) ∧ ((AV.b8 32 send = AV.b8 32 send) ∧ ((AV.int .i64 out = AV.int .i64 out) ∧ ((AV.b8 32 recv = AV.b8 32 recv) ∧ ((AV.int .i64 inn = AV.int .i64 inn) ∧ ((AV.int .i64 last = AV.int .i64 last) ∧ ((AV.bool can = AV.bool can) ∧ ((AV.bool hear = AV.bool hear) ∧ ((AV.vecr full 65 x0 (Rat.kcs L) = AV.vecr full 65 x0 (Rat.kcs L)) ∧ ((AV.b8 32 (Rat.Kp.peer (List.getD L (Int.toNat ((w1 : Nat) : Int)) Rat.kp0)) = AV.b8 32 (Rat.Kp.peer (List.getD L (Int.toNat ((w1 : Nat) : Int)) Rat.kp0))) ∧ ((AV.int .i64 (Rat.Kp.n (List.getD L (Int.toNat ((w1 : Nat) : Int)) Rat.kp0)) = AV.int .i64 (Rat.Kp.n (List.getD L (Int.toNat ((w1 : Nat) : Int)) Rat.kp0))) ∧ ((AV.b8 32 (Rat.Kp.key (List.getD L (Int.toNat ((w1 : Nat) : Int)) Rat.kp0)) = AV.b8 32 (Rat.Kp.key (List.getD L (Int.toNat ((w1 : Nat) : Int)) Rat.kp0))) ∧ True))))))))))))))))))))))))))
 ((∃ w5 : Nat, (((Inv.up w5) < (Inv.up w3)) ∧ (okI L [AV.int .i64 ((w1 : Nat) : Int), AV.int .i64 ((((hiN x0 (Option.some ((w1 : Nat) : Int))) - 0) : Nat) : Int)] w5)) ∧ ((AV.agg [AV.b8 32 root, AV.b8 32 own, AV.b8 32 peer, AV.b8 32 send, AV.int .i64 out, AV.b8 32 recv, AV.int .i64 inn, AV.int .i64 last, AV.bool can, AV.bool hear, AV.vecr full 65 x0 (Rat.kcs L)] = AV.agg [AV.b8 32 root, AV.b8 32 own, AV.b8 32 peer, AV.b8 32 send, AV.int .i64 out, AV.b8 32 recv, AV.int .i64 inn, AV.int .i64 last, AV.bool can, AV.bool hear, AV.vecr full 65 x0 (Rat.kcs L)]) ∧ ((AV.fn (Fn.func 27) [] [] = AV.fn (Fn.func 27) [] []) ∧ ((AV.int .i64 ((w1 : Nat) : Int) = AV.int .i64 ((w1 : Nat) : Int)) ∧ ((AV.vecr full 65 x0 (Rat.kcs L) = AV.vecr full 65 x0 (Rat.kcs L)) ∧ ((AV.int .i64 x1 = AV.int .i64 x1) ∧ ((AV.int .i64 ((w1 : Nat) : Int) = AV.int .i64 ((w1 : Nat) : Int)) ∧ ((AV.vecr x2 65 ((hiN x0 (Option.some ((w1 : Nat) : Int))) - 0) (fun i => Rat.kcs L (x3 + i)) = AV.vecr x2 65 ((hiN x0 (Option.some ((w1 : Nat) : Int))) - 0) (fun i => Rat.kcs L (x3 + i))) ∧ ((AV.int .i64 ((((hiN x0 (Option.some ((w1 : Nat) : Int))) - 0) : Nat) : Int) = AV.int .i64 ((((hiN x0 (Option.some ((w1 : Nat) : Int))) - 0) : Nat) : Int)) ∧ ((AV.int .i64 (wr .i64 (((w3 : Nat) : Int) + 1)) = AV.int .i64 ((w5 : Nat) : Int)) ∧ ((AV.b8 32 root = AV.b8 32 root) ∧ ((AV.b8 32 own = AV.b8 32 own) ∧ ((AV.b8 32 peer = AV.b8 32 peer) ∧ ((AV.b8 32 send = AV.b8 32 send) ∧ ((AV.int .i64 out = AV.int .i64 out) ∧ ((AV.b8 32 recv = AV.b8 32 recv) ∧ ((AV.int .i64 inn = AV.int .i64 inn) ∧ ((AV.int .i64 last = AV.int .i64 last) ∧ ((AV.bool can = AV.bool can) ∧ ((AV.bool hear = AV.bool hear) ∧ ((AV.vecr full 65 x0 (Rat.kcs L) = AV.vecr full 65 x0 (Rat.kcs L)) ∧ ((AV.b8 32 (Rat.Kp.peer (List.getD L (Int.toNat ((w1 : Nat) : Int)) Rat.kp0)) = AV.b8 32 (Rat.Kp.peer (List.getD L (Int.toNat ((w1 : Nat) : Int)) Rat.kp0))) ∧ ((AV.int .i64 (Rat.Kp.n (List.getD L (Int.toNat ((w1 : Nat) : Int)) Rat.kp0)) = AV.int .i64 (Rat.Kp.n (List.getD L (Int.toNat ((w1 : Nat) : Int)) Rat.kp0))) ∧ ((AV.b8 32 (Rat.Kp.key (List.getD L (Int.toNat ((w1 : Nat) : Int)) Rat.kp0)) = AV.b8 32 (Rat.Kp.key (List.getD L (Int.toNat ((w1 : Nat) : Int)) Rat.kp0))) ∧ True)))))))))))))))))))))))))))
 ((∃ w6 : Nat, (((Inv.up w6) < (Inv.up w1)) ∧ (okO L [AV.int .i64 x1] w6)) ∧ ((AV.agg [AV.b8 32 root, AV.b8 32 own, AV.b8 32 peer, AV.b8 32 send, AV.int .i64 out, AV.b8 32 recv, AV.int .i64 inn, AV.int .i64 last, AV.bool can, AV.bool hear, AV.vecr full 65 x0 (Rat.kcs L)] = AV.agg [AV.b8 32 root, AV.b8 32 own, AV.b8 32 peer, AV.b8 32 send, AV.int .i64 out, AV.b8 32 recv, AV.int .i64 inn, AV.int .i64 last, AV.bool can, AV.bool hear, AV.vecr full 65 x0 (Rat.kcs L)]) ∧ ((AV.fn (Fn.func 27) [] [] = AV.fn (Fn.func 27) [] []) ∧ ((AV.vecr full 65 x0 (Rat.kcs L) = AV.vecr full 65 x0 (Rat.kcs L)) ∧ ((AV.int .i64 x1 = AV.int .i64 x1) ∧ ((AV.int .i64 (wr .i64 (((w1 : Nat) : Int) + 1)) = AV.int .i64 ((w6 : Nat) : Int)) ∧ ((AV.b8 32 root = AV.b8 32 root) ∧ ((AV.b8 32 own = AV.b8 32 own) ∧ ((AV.b8 32 peer = AV.b8 32 peer) ∧ ((AV.b8 32 send = AV.b8 32 send) ∧ ((AV.int .i64 out = AV.int .i64 out) ∧ ((AV.b8 32 recv = AV.b8 32 recv) ∧ ((AV.int .i64 inn = AV.int .i64 inn) ∧ ((AV.int .i64 last = AV.int .i64 last) ∧ ((AV.bool can = AV.bool can) ∧ ((AV.bool hear = AV.bool hear) ∧ ((AV.vecr full 65 x0 (Rat.kcs L) = AV.vecr full 65 x0 (Rat.kcs L)) ∧ True)))))))))))))))))))))))
 (K (AV.int .i64 9) [])))
 (K (AV.int .i64 0) []))))))
 (K (AV.int .i64 9) [])))
 (K (AV.int .i64 9) [])))
 (K (AV.int .i64 9) [])) := by kernel_rfl
theorem inN_lo {n : Int} (h : Bool.not (ltI n 0) = false) : inN n = false := by unfold inN; rw [show (!(ltI n 0)) = false from h]; rfl
theorem inN_hi {n : Int} (h : (Bool.not (cond Bool.true (Bool.not (ltI 1073741824 n)) Bool.false)) = true) : inN n = false := by
 unfold inN; cases hb : ltI 1073741824 n with
 | true => cases ltI n 0 <;> rfl
 | false => rw [hb] at h; exact absurd h (by decide)
theorem inN_in {n : Int} (h : Bool.not (ltI n 0) = true) (h2 : (Bool.not (cond Bool.true (Bool.not (ltI 1073741824 n)) Bool.false)) = false) : inN n = true := by
 unfold inN; cases hb : ltI 1073741824 n with
 | true => rw [hb] at h2; exact absurd h2 (by decide)
 | false => rw [show (!(ltI n 0)) = true from h]; rfl
theorem rcheck_c (root own peer send : List UInt8) (out : Int) (recv : List UInt8) (inn last : Int) (can hear full : Bool) (L : List Kp) (hL : L.length ≤ 1000000000) :
  HCall Tryd.E 13 [.agg [.b8 32 root, .b8 32 own, .b8 32 peer, .b8 32 send, .int .i64 out, .b8 32 recv, .int .i64 inn, .int .i64 last, .bool can, .bool hear, .vecr full 65 L.length (kcs L)]] (.ret (.int .i64 (chkS out inn last L)) []) := by
 refine HCall.of_walk (R := RT) (T := W1) (fun _ r => rchkL L r) 4 rfl rfl ?_
 rw [rcheck_eq]
 dsimp only
 have bad : ¬ chkP out inn last L → (Out.ret (.int .i64 (chkS out inn last L)) []).has (.int .i64 9) [] := fun h => by rw [chkS_bad h]; exact ⟨rfl, rfl⟩
 have no : ∀ {n : Int}, inN n = false → ¬ inN n = true := fun h h' => by rw [h] at h'; cases h'
 refine ite2_iff.2 ⟨fun o1 => ite2_iff.2 ⟨fun o2 => bad fun h => no (inN_hi o2) h.1, fun o2 => ite2_iff.2 ⟨fun i1 => ite2_iff.2 ⟨fun i2 => bad fun h => no (inN_hi i2) h.2.1, fun i2 => ite2_iff.2 ⟨fun l1 => ite2_iff.2 ⟨fun l2 => bad fun h => no (inN_hi l2) h.2.2.1, fun l2 => ite2_iff.2 ⟨fun n1 => bad fun h => ?_, fun n1 => ?_⟩⟩, fun l1 => bad fun h => no (inN_lo l1) h.2.2.1⟩⟩, fun i1 => bad fun h => no (inN_lo i1) h.2.1⟩⟩, fun o1 => bad fun h => no (inN_lo o1) h.1⟩
 ·have : ltI 12 ((L.length : Nat) : Int) = true := n1
  rw [ltI_iff] at this
  have := h.2.2.2.1
  omega
 have hl12 : L.length ≤ 12 := by
  have : ltI 12 ((L.length : Nat) : Int) = false := n1
  rw [← Bool.not_eq_true, ltI_iff] at this
  omega
 have i2 : (Bool.not (cond Bool.true (Bool.not (ltI 1073741824 inn)) Bool.false)) = false := i2
 have l2 : (Bool.not (cond Bool.true (Bool.not (ltI 1073741824 last)) Bool.false)) = false := l2
 refine ⟨⟨0, okO_iff.2 ⟨by omega, fun j h => by omega⟩, ?_⟩, fun i hi => ?_⟩
 ·repeat' apply And.intro
  all_goals first | rfl | trivial
 obtain ⟨hin, hok⟩ := okO_iff.1 hi
 refine ite2_iff.2 ⟨fun hlt => ?_, fun hlt => ?_⟩
 ·rw [ltI_iff] at hlt
  have hlt : i < L.length := by omega
  rw [inB_of (by omega) (by omega), Int.toNat_natCast]
  refine ite2_iff.2 ⟨fun p1 => ite2_iff.2 ⟨fun p2 => bad fun h => no (inN_hi p2) (h.2.2.2.2 i hlt).1, fun p2 => ?_⟩, fun p1 => bad fun h => no (inN_lo p1) (h.2.2.2.2 i hlt).1⟩
  rw [(pos_slices L.length i (by omega)).1, (pos_slices L.length i (by omega)).2.2.1]
  refine ⟨⟨0, okI_iff.2 ⟨by omega, fun m h => by omega⟩, ?_⟩, fun j hj => ?_⟩
  ·repeat' apply And.intro
   all_goals first | rfl | trivial
  obtain ⟨hjn, hjk⟩ := okI_iff.1 hj
  rw [Int.toNat_natCast] at hjk
  refine ite2_iff.2 ⟨fun hlt2 => ?_, fun hlt2 => ?_⟩
  ·rw [ltI_iff] at hlt2
   have hlt2 : j < i := by omega
   rw [inB_of (by omega) (by omega), Int.toNat_natCast, show loN none + j = j from Nat.zero_add j]
   have next : ¬ ((L.getD j kp0).peer = (L.getD i kp0).peer ∧ (L.getD j kp0).n = (L.getD i kp0).n) → okI L [.int .i64 (i : Int), .int .i64 (i : Int)] (j + 1) := fun h => by
    refine okI_iff.2 ⟨by omega, fun m hm => ?_⟩
    rw [Int.toNat_natCast]
    rcases Nat.lt_or_ge m j with h' | h'
    ·exact hjk m h'
    ·obtain rfl : m = j := by omega
     exact h
   have hw : wr IntKind.i64 ((j : Int) + 1) = ((j + 1 : Nat) : Int) := by rw [wr_of (by omega) (by omega)]; rfl
   refine ite2_iff.2 ⟨fun q1 => ite2_iff.2 ⟨fun q2 => bad fun h => (h.2.2.2.2 i hlt).2 j hlt2 ⟨eq_of_beq q1, eq_of_beq q2⟩, fun q2 => ⟨j + 1, ⟨Inv.up_lt (by omega), next fun h => ?_⟩, ?_⟩⟩, fun q1 => ⟨j + 1, ⟨Inv.up_lt (by omega), next fun h => ?_⟩, ?_⟩⟩
   ·exact absurd h.2 (ne_of_beq_false q2)
   ·rw [hw]
    repeat' apply And.intro
    all_goals first | rfl | trivial
   ·exact absurd h.1 (ne_of_beq_false q1)
   ·rw [hw]
    repeat' apply And.intro
    all_goals first | rfl | trivial
  ·have hji : j = i := by
    rw [← Bool.not_eq_true, ltI_iff] at hlt2
    omega
   subst hji
   have hw : wr IntKind.i64 ((j : Int) + 1) = ((j + 1 : Nat) : Int) := by rw [wr_of (by omega) (by omega)]; rfl
   refine ⟨j + 1, ⟨Inv.up_lt (by omega), okO_iff.2 ⟨by omega, fun m hm => ?_⟩⟩, ?_⟩
   ·rcases Nat.lt_or_ge m j with h' | h'
    ·exact hok m h'
    ·obtain rfl : m = j := by omega
     exact ⟨inN_in p1 p2, hjk⟩
   ·rw [hw]
    repeat' apply And.intro
    all_goals first | rfl | trivial
 ·have e : i = L.length := by
   rw [← Bool.not_eq_true, ltI_iff] at hlt
   omega
  subst e
  rw [chkS_ok ⟨inN_in o1 o2, inN_in i1 i2, inN_in l1 l2, hl12, hok⟩]
  exact ⟨rfl, rfl⟩
noncomputable def rootS : List UInt8 → List UInt8 → List UInt8 → List UInt8 := (sealed fun root own peer => key1 root (dhS own peer)).val
noncomputable def chainS : List UInt8 → List UInt8 → List UInt8 → List UInt8 := (sealed fun root own peer => key2 root (dhS own peer)).val
theorem rootS_eq (root own peer : List UInt8) : rootS root own peer = key1 root (dhS own peer) := by rw [rootS, (sealed fun root own peer => key1 root (dhS own peer)).property]
theorem chainS_eq (root own peer : List UInt8) : chainS root own peer = key2 root (dhS own peer) := by rw [chainS, (sealed fun root own peer => key2 root (dhS own peer)).property]
theorem rturned_c (root own peer : List UInt8) : HCall Tryd.E 28 [.b8 32 root, .b8 32 own, .b8 32 peer] (.ret (.tup [.b8 32 (rootS root own peer), .b8 32 (chainS root own peer), .bool (tellS own peer)]) []) := by
 refine HCall.of_walk (R := RT) (T := W1) (fun _ _ => .unroll 6) 4 rfl rfl ?_
 rw [rturned_eq]
 dsimp only
 rw [leB_of (by rw [length_dhS]; omega), rootS_eq, chainS_eq]
 exact ⟨rfl, rfl⟩
def z32 : List UInt8 := [0, 0, 0, 0, 0, 0, 0, 0, 0, 0, 0, 0, 0, 0, 0, 0, 0, 0, 0, 0, 0, 0, 0, 0, 0, 0, 0, 0, 0, 0, 0, 0]
def rt0 : Rt := ⟨z32, z32, z32, z32, 0, z32, 0, 0, false, false, []⟩
noncomputable def firstR (root own peer : List UInt8) : Rt := ⟨rootS root own peer, own, peer, chainS root own peer, 0, z32, 0, 0, true, false, []⟩
noncomputable def secondR (root own : List UInt8) : Rt := ⟨root, own, z32, z32, 0, z32, 0, 0, false, false, []⟩
noncomputable def RF : ROps Tryd.E := (ROps.cold0 Tryd.E).full
noncomputable def W2 : Ctr Tryd.E := (W1.add 28 (fun
  | [.b8 32 root, .b8 32 own, .b8 32 peer] => some (true, .ret (.tup [.b8 32 (rootS root own peer), .b8 32 (chainS root own peer), .bool (tellS own peer)]) [])
  | _ => none) (by
   intro args pre out h hp
   split at h
   ·simp only [Option.some.injEq, Prod.mk.injEq] at h
    obtain ⟨rfl, rfl⟩ := h
    exact rturned_c _ _ _
   ·simp at h)).add 13 (fun
  | [.agg [.b8 32 _, .b8 32 _, .b8 32 _, .b8 32 _, .int .i64 out, .b8 32 _, .int .i64 inn, .int .i64 last, .bool _, .bool _, .vecr _ 65 n f]] => some (leB n 1000000000 && isKps n f, .ret (.int .i64 (chkS out inn last (kpsOf n f))) [])
  | _ => none) (by
   intro args pre out h hp
   split at h
   ·simp only [Option.some.injEq, Prod.mk.injEq] at h
    obtain ⟨rfl, rfl⟩ := h
    rw [Bool.and_eq_true] at hp
    rename_i root own peer send out recv inn last can hear full n f
    obtain ⟨L, rfl, hf⟩ := isKps_iff.1 hp.2
    rw [kpsOf_eq L rfl hf]
    refine HCall.args (rcheck_c root own peer send out recv inn last can hear full L (leB_iff.1 hp.1)) rfl (leRV_cons (leV_agg ?_) leRV_nil)
    refine leR_same rfl (leR_same rfl (leR_same rfl (leR_same rfl (leR_same rfl (leR_same rfl (leR_same rfl (leR_same rfl (leR_same rfl (leR_same rfl (leR_vecr (c := 0) id (fun x hx => leR.of_eq (kcs_ok L x).ok (hf x hx)) leR_end))))))))))
   ·simp at h)
def okK (L : List Kp) (hk : List UInt8) (hn : Int) (g : List AV) (i : Nat) : Prop := match g with
 | [.int _ n] => (i : Int) ≤ n ∧ ∀ j, j < i → ¬ ((L.getD j kp0).peer = hk ∧ (L.getD j kp0).n = hn)
 | _ => False
theorem okK_iff {L : List Kp} {hk : List UInt8} {hn : Int} {k : IntKind} {n : Int} {i : Nat} : okK L hk hn [.int k n] i ↔ (i : Int) ≤ n ∧ ∀ j, j < i → ¬ ((L.getD j kp0).peer = hk ∧ (L.getD j kp0).n = hn) := Iff.rfl
noncomputable def chainN (c : List UInt8) : Nat → List UInt8
 | 0 => c
 | n + 1 => kcS (chainN c n)
noncomputable def skipN (p : List UInt8) (i : Int) (c : List UInt8) : Nat → List Kp
 | 0 => []
 | n + 1 => skipN p i c n ++ [⟨p, i + n, kmS (chainN c n)⟩]
theorem length_skipN (p : List UInt8) (i : Int) (c : List UInt8) : ∀ n, (skipN p i c n).length = n
 | 0 => rfl
 | n + 1 => by rw [skipN, List.length_append, length_skipN p i c n]; rfl
noncomputable def keptL (L : List Kp) (hk : List UInt8) (hn : Int) : LPlan := .rel [2, 3, 8, 9] [9] Nat (okK L hk hn) Inv.up (fun i => [(10, .int .i64 ((i : Nat) : Int))]) (fun _ => [])
def okS (g : List AV) (x : Nat × Rt) : Prop := match g with
 | [.agg [.b8 _ root, .b8 _ own, .b8 _ peer, .b8 _ send, .int _ out, .b8 _ recv, .int _ inn, .int _ last, .bool can, .bool hear, .slv _ _ n f], .int _ to] =>
  ((x.2.root = root ∧ x.2.own = own ∧ x.2.peer = peer ∧ x.2.send = send ∧ x.2.out = out ∧ x.2.recv = recv) ∧ (x.2.inn = inn ∧ x.2.last = last ∧ x.2.can = can ∧ x.2.hear = hear ∧ n = x.2.kept.length ∧ ∀ i, i < n → f i = kcs x.2.kept i)) ∧ inn + (x.1 : Int) ≤ to
 | _ => False
noncomputable def skipL : LPlan := .mv [1, 2, 4, 5] [0, 1] (Nat × Rt) okS (fun x => Inv.up x.1)
 (fun s => match s.t.getD 2 .any with
  | .ptr id _ => match s.H.getD id .dead with
   | .blk c _ => [c.getD 10 .any]
   | _ => []
  | _ => []) (fun n _ => bif n == 14 then [(1, .int .i64 1)] else [])
 (fun n x => [(4, .dead), (5, .dead), (6, .dead), (n - 2, .blk [.b8 32 x.2.root, .b8 32 x.2.own, .b8 32 x.2.peer, .b8 32 x.2.send, .int .i64 x.2.out, .b8 32 (chainN x.2.recv x.1), .int .i64 (bif n == 14 then 0 else x.2.inn + (x.1 : Int)), .int .i64 x.2.last, .bool x.2.can, .bool x.2.hear,
   .slv n (bif n == 14 then 66 else 65) (x.2.kept.length + x.1) (kcs (x.2.kept ++ skipN x.2.peer x.2.inn x.2.recv x.1))] [])])
 (fun x => [.tail 65 (x.2.kept.length + x.1)])
noncomputable def openP (L : List Kp) (hk : List UInt8) (hn : Int) (f _r : Nat) : LPlan := bif f == 23 then keptL L hk hn else bif f == 25 then skipL else .none
theorem rseal_eq (root own peer send : List UInt8) (out : Int) (recv : List UInt8) (inn last : Int) (can hear full : Bool) (L : List Kp) (fa fb : Bool) (a b : List UInt8) (K : AV → Heap → Prop) : walk Tryd.E RF W2.C (fun _ _ => .unroll 6) 4 10 [.agg [.b8 32 root, .b8 32 own, .b8 32 peer, .b8 32 send, .int .i64 out, .b8 32 recv, .int .i64 inn, .int .i64 last, .bool can, .bool hear, .vecr full 65 L.length (kcs L)], .vec8 fa a, .vec8 fb b] K = (
 let x0 : Nat := (List.length L)
 let x1 : Int := (chkS out inn last (kpsOf x0 (kcs L)))
 let x2 : Nat := (List.length b)
 let x3 : Nat := (List.length a)
 let x4 : Bool := (leB x3 100000)
 let x5 : List UInt8 := (headS (pubS own) last out)
 let x6 : Bool := leB (x0 * 72) 140737488355328
 let x7 : List UInt8 := [0, 0, 0, 0, 0, 0, 0, 0, 0, 0, 0, 0]
 let x8 : List Ent := [Ent.tail 65 x0]
 cnd ((leB x0 1000000000) && (isKps x0 (kcs L)))
 (ite2 (x1 != 0)
 (K (AV.tup [AV.agg [z8K, z8K, z8K, z8K, iK 0, z8K, iK 0, iK 0, AV.bool false, AV.bool false, AV.vec true 65 []], AV.agg [z8K, iK 0, iK 0], AV.vec8 true [], iK x1]) [])
 (ite2 (Bool.not can)
 (K (AV.tup [AV.agg [z8K, z8K, z8K, z8K, iK 0, z8K, iK 0, iK 0, AV.bool false, AV.bool false, AV.vec true 65 []], AV.agg [z8K, iK 0, iK 0], AV.vec8 true [], iK 9]) [])
 (ite2 (ltI 400 ((x2 : Nat) : Int))
 (K (AV.tup [AV.agg [z8K, z8K, z8K, z8K, iK 0, z8K, iK 0, iK 0, AV.bool false, AV.bool false, AV.vec true 65 []], AV.agg [z8K, iK 0, iK 0], AV.vec8 true [], iK 1]) [])
 (ite2 (cond false true (ltI 160 ((x3 : Nat) : Int)))
 (K (AV.tup [AV.agg [z8K, z8K, z8K, z8K, iK 0, z8K, iK 0, iK 0, AV.bool false, AV.bool false, AV.vec true 65 []], AV.agg [z8K, iK 0, iK 0], AV.vec8 true [], iK 1]) [])
 (ite2 (out == 1073741824)
 (K (AV.tup [AV.agg [z8K, z8K, z8K, z8K, iK 0, z8K, iK 0, iK 0, AV.bool false, AV.bool false, AV.vec true 65 []], AV.agg [z8K, iK 0, iK 0], AV.vec8 true [], iK 11]) [])
 (ite2 ((inN last) && (inN out))
 (cnd (x4 && (leB (List.length x5) 100000))
 (ite2 ((ltB 200 (List.length (a ++ x5))) || (ltB 800 x2))
 (K (AV.tup [AV.agg [z8K, z8K, z8K, z8K, iK 0, z8K, iK 0, iK 0, AV.bool false, AV.bool false, AV.vec true 65 []], AV.agg [z8K, iK 0, iK 0], AV.vec8 true [], iK 1]) [])
 (cnd (x6)
 (K (AV.tup [AV.agg [b8K root, b8K own, b8K peer, b8K (kcS send), iK (wr .i64 (out + 1)), b8K recv, iK inn, iK last, AV.bool can, AV.bool hear, AV.slv 0 65 x0 (kcs L)], AV.agg [b8K (pubS own), iK last, iK out], AV.vec8 false (sealS (kmS send) x7 (a ++ x5) b), iK 0]) x8))))
 (cnd (x4 && true)
 (ite2 ((ltB 200 (List.length (a ++ []))) || (ltB 800 x2))
 (K (AV.tup [AV.agg [z8K, z8K, z8K, z8K, iK 0, z8K, iK 0, iK 0, AV.bool false, AV.bool false, AV.vec true 65 []], AV.agg [z8K, iK 0, iK 0], AV.vec8 true [], iK 1]) [])
 (cnd (x6)
 (K (AV.tup [AV.agg [b8K root, b8K own, b8K peer, b8K (kcS send), iK (wr .i64 (out + 1)), b8K recv, iK inn, iK last, AV.bool can, AV.bool hear, AV.slv 0 65 x0 (kcs L)], AV.agg [b8K (pubS own), iK last, iK out], AV.vec8 false (sealS (kmS send) x7 (a ++ []) b), iK 0]) x8))))))))))) := by kernel_rfl
theorem ropen0_eq (root own peer send : List UInt8) (out : Int) (recv : List UInt8) (inn last : Int) (can full : Bool) (L : List Kp) (sec : List UInt8) (fa : Bool) (a hk : List UInt8) (hl hn : Int) (fb : Bool) (b : List UInt8) (K : AV → Heap → Prop) : walk Tryd.E RF W2.C (fun f r => openP L hk hn f r) 4 11 [.agg [.b8 32 root, .b8 32 own, .b8 32 peer, .b8 32 send, .int .i64 out, .b8 32 recv, .int .i64 inn, .int .i64 last, .bool can, .bool false, .vecr full 65 L.length (kcs L)], .b8 32 sec, .vec8 fa a, .agg [.b8 32 hk, .int .i64 hl, .int .i64 hn], .vec8 fb b] K = (
 let x0 : Nat := (List.length L)
 let x1 : Int := (chkS out inn last (kpsOf x0 (kcs L)))
 let x2 : Nat := (List.length a)
 let x3 : Nat := 140737488355328
 let x4 : Int := ((x0 : Nat) : Int)
 let x5 : List UInt8 := (headS hk hl hn)
 let x6 : Bool := (leB x2 100000) && (leB (List.length x5) 100000)
 let x7 : Nat := (List.length b)
 let x8 : Bool := leB x7 1000000000
 let x9 : Bool := (ltB 200 (List.length (a ++ x5))) || (ltB 816 x7)
 let x10 : List UInt8 := [0, 0, 0, 0, 0, 0, 0, 0, 0, 0, 0, 0]
 let x11 : List UInt8 := (chainS root own hk)
 let x12 : List UInt8 := (rootS root own hk)
 cnd ((leB x0 1000000000) && (isKps x0 (kcs L)))
 (ite2 (x1 != 0)
 (K (AV.tup [AV.agg [z8K, z8K, z8K, z8K, iK 0, z8K, iK 0, iK 0, AV.bool false, AV.bool false, AV.vec true 65 []], AV.vec8 true [], iK x1]) [])
 (ite2 ((inN hl) && (inN hn))
 (ite2 (ltI 160 ((x2 : Nat) : Int))
 (K (AV.tup [AV.agg [z8K, z8K, z8K, z8K, iK 0, z8K, iK 0, iK 0, AV.bool false, AV.bool false, AV.vec true 65 []], AV.vec8 true [], iK 1]) [])
 (cnd (leB (x0 * 72) x3)
 ((∃ w0 : Nat, (okK L hk hn [iK x4] w0) ∧ ((x0 = x0) ∧ ((∀ w1 : Nat, (w1 < x0 → ([b8K (Kp.peer (List.getD L w1 kp0)), iK (Kp.n (List.getD L w1 kp0)), b8K (Kp.key (List.getD L w1 kp0))] = [b8K (Kp.peer (List.getD L w1 kp0)), iK (Kp.n (List.getD L w1 kp0)), b8K (Kp.key (List.getD L w1 kp0))]))) ∧ ((iK x4 = iK x4) ∧ ((iK 0 = iK (nK w0)) ∧ ((b8K root = b8K root) ∧ ((b8K own = b8K own) ∧ ((b8K peer = b8K peer) ∧ ((b8K send = b8K send) ∧ ((iK out = iK out) ∧ ((b8K recv = b8K recv) ∧ ((iK inn = iK inn) ∧ ((iK last = iK last) ∧ ((AV.bool can = AV.bool can) ∧ ((AV.bool false = AV.bool false) ∧ ((AV.slv 6 65 x0 (kcs L) = AV.slv 6 65 x0 (kcs L)) ∧ ((b8K sec = b8K sec) ∧ ((b8K hk = b8K hk) ∧ ((iK hl = iK hl) ∧ ((iK hn = iK hn) ∧ ((z8K = z8K) ∧ ((z8K = z8K) ∧ ((z8K = z8K) ∧ ((z8K = z8K) ∧ ((iK 0 = iK 0) ∧ ((z8K = z8K) ∧ ((iK 0 = iK 0) ∧ ((iK 0 = iK 0) ∧ ((AV.bool false = AV.bool false) ∧ ((AV.bool false = AV.bool false) ∧ ((AV.vec true 65 [] = AV.vec true 65 []) ∧ ((b8K root = b8K root) ∧ ((b8K own = b8K own) ∧ ((b8K peer = b8K peer) ∧ ((b8K send = b8K send) ∧ ((iK out = iK out) ∧ ((b8K recv = b8K recv) ∧ ((iK inn = iK inn) ∧ ((iK last = iK last) ∧ ((AV.bool can = AV.bool can) ∧ ((AV.bool false = AV.bool false) ∧ ((AV.slv 6 65 x0 (kcs L) = AV.slv 6 65 x0 (kcs L)) ∧ ((b8K root = b8K root) ∧ ((b8K own = b8K own) ∧ ((b8K peer = b8K peer) ∧ ((b8K send = b8K send) ∧ ((iK out = iK out) ∧ ((b8K recv = b8K recv) ∧ ((iK inn = iK inn) ∧ ((iK last = iK last) ∧ ((AV.bool can = AV.bool can) ∧ ((AV.bool false = AV.bool false) ∧ ((AV.slv 6 65 x0 (kcs L) = AV.slv 6 65 x0 (kcs L)) ∧ ((x0 = x0) ∧ ((z8K = z8K) ∧ ((b8K root = b8K root) ∧ ((b8K own = b8K own) ∧ ((b8K peer = b8K peer) ∧ ((b8K send = b8K send) ∧ ((iK out = iK out) ∧ ((b8K recv = b8K recv) ∧ ((iK inn = iK inn) ∧ ((iK last = iK last) ∧ ((AV.bool can = AV.bool can) ∧ ((AV.bool false = AV.bool false) ∧ ((AV.slv 6 65 x0 (kcs L) = AV.slv 6 65 x0 (kcs L)) ∧ ((b8K hk = b8K hk) ∧ ((iK hl = iK hl) ∧ ((iK hn = iK hn) ∧ True))))))))))))))))))))))))))))))))))))))))))))))))))))))))))))))))))))) ∧ (∀ w2 : Nat, (okK L hk hn [iK x4] w2 → ite2 (ltI (nK w2) x4)
 (cnd ((inB (nK w2) x0) && true)
 (ite2 ((Kp.peer (List.getD L (Int.toNat (nK w2)) kp0)) == hk)
 (ite2 (cond true ((Kp.n (List.getD L (Int.toNat (nK w2)) kp0)) == hn) false)
 (cnd ((inB (nK w2) x0) && true)
 (cnd ((true && ((nK w2) == (nK w2))) && (sliceOk none (some (nK w2)) x0))
 (cnd (true && (sliceOk (some (wr .i64 ((nK w2) + 1))) none x0))
 (cnd (leB ((((hiN x0 (some (nK w2))) - 0) + ((hiN x0 none) - (loN (some (wr .i64 ((nK w2) + 1)))))) * 72) x3)
 (cnd (x6)
 (cnd (x8)
 (ite2 (x9)
 (K (AV.tup [AV.agg [z8K, z8K, z8K, z8K, iK 0, z8K, iK 0, iK 0, AV.bool false, AV.bool false, AV.vec true 65 []], AV.vec8 true [], iK 1]) [])
 (ite2 (ltB x7 16)
 (K (AV.tup [AV.agg [z8K, z8K, z8K, z8K, iK 0, z8K, iK 0, iK 0, AV.bool false, AV.bool false, AV.vec true 65 []], AV.vec8 true [], iK 4]) [])
 (ite2 (badS (Kp.key (List.getD L (Int.toNat (nK w2)) kp0)) x10 (a ++ x5) b)
 (K (AV.tup [AV.agg [z8K, z8K, z8K, z8K, iK 0, z8K, iK 0, iK 0, AV.bool false, AV.bool false, AV.vec true 65 []], AV.vec8 true [], iK 10]) [])
 (K (AV.tup [AV.agg [b8K root, b8K own, b8K peer, b8K send, iK out, b8K recv, iK inn, iK last, AV.bool can, AV.bool false, AV.vecr false 65 (((hiN x0 (some (nK w2))) - 0) + ((hiN x0 none) - (loN (some (wr .i64 ((nK w2) + 1)))))) (catF ((hiN x0 (some (nK w2))) - 0) (fun i => kcs L ((loN none) + i)) (fun i => kcs L ((loN (some (wr .i64 ((nK w2) + 1)))) + i)))], AV.vec8 false (plainS (Kp.key (List.getD L (Int.toNat (nK w2)) kp0)) x10 b), iK 0]) []))))))))))
 ((∃ w3 : Nat, (((Inv.up w3) < (Inv.up w2)) ∧ (okK L hk hn [iK x4] w3)) ∧ (smK (x0) ((∀ w4 : Nat, (w4 < x0 → ([b8K (Kp.peer (List.getD L w4 kp0)), iK (Kp.n (List.getD L w4 kp0)), b8K (Kp.key (List.getD L w4 kp0))] = [b8K (Kp.peer (List.getD L w4 kp0)), iK (Kp.n (List.getD L w4 kp0)), b8K (Kp.key (List.getD L w4 kp0))]))) ∧ (smK (iK x4) ((iK (wr .i64 ((nK w2) + 1)) = iK (nK w3)) ∧ (smK (b8K root) (smK (b8K own) (smK (b8K peer) (smK (b8K send) (smK (iK out) (smK (b8K recv) (smK (iK inn) (smK (iK last) (smK (AV.bool can) (smK (AV.bool false) (smK (AV.slv 6 65 x0 (kcs L)) (smK (b8K sec) (smK (b8K hk) (smK (iK hl) (smK (iK hn) (smK (z8K) (smK (z8K) (smK (z8K) (smK (z8K) (smK (iK 0) (smK (z8K) (smK (iK 0) (smK (iK 0) (smK (AV.bool false) (smK (AV.bool false) (smK (AV.vec true 65 []) (smK (b8K root) (smK (b8K own) (smK (b8K peer) (smK (b8K send) (smK (iK out) (smK (b8K recv) (smK (iK inn) (smK (iK last) (smK (AV.bool can) (smK (AV.bool false) (smK (AV.slv 6 65 x0 (kcs L)) (smK (b8K root) (smK (b8K own) (smK (b8K peer) (smK (b8K send) (smK (iK out) (smK (b8K recv) (smK (iK inn) (smK (iK last) (smK (AV.bool can) (smK (AV.bool false) (smK (AV.slv 6 65 x0 (kcs L)) (smK (x0) (smK (z8K) (smK (b8K root) (smK (b8K own) (smK (b8K peer) (smK (b8K send) (smK (iK out) (smK (b8K recv) (smK (iK inn) (smK (iK last) (smK (AV.bool can) (smK (AV.bool false) (smK (AV.slv 6 65 x0 (kcs L)) (smK (b8K hk) (smK (iK hl) ((iK hn = iK hn) ∧ True)))))))))))))))))))))))))))))))))))))))))))))))))))))))))))))))))))))))
 ((∃ w5 : Nat, (((Inv.up w5) < (Inv.up w2)) ∧ (okK L hk hn [iK x4] w5)) ∧ (smK (x0) ((∀ w6 : Nat, (w6 < x0 → ([b8K (Kp.peer (List.getD L w6 kp0)), iK (Kp.n (List.getD L w6 kp0)), b8K (Kp.key (List.getD L w6 kp0))] = [b8K (Kp.peer (List.getD L w6 kp0)), iK (Kp.n (List.getD L w6 kp0)), b8K (Kp.key (List.getD L w6 kp0))]))) ∧ (smK (iK x4) ((iK (wr .i64 ((nK w2) + 1)) = iK (nK w5)) ∧ (smK (b8K root) (smK (b8K own) (smK (b8K peer) (smK (b8K send) (smK (iK out) (smK (b8K recv) (smK (iK inn) (smK (iK last) (smK (AV.bool can) (smK (AV.bool false) (smK (AV.slv 6 65 x0 (kcs L)) (smK (b8K sec) (smK (b8K hk) (smK (iK hl) (smK (iK hn) (smK (z8K) (smK (z8K) (smK (z8K) (smK (z8K) (smK (iK 0) (smK (z8K) (smK (iK 0) (smK (iK 0) (smK (AV.bool false) (smK (AV.bool false) (smK (AV.vec true 65 []) (smK (b8K root) (smK (b8K own) (smK (b8K peer) (smK (b8K send) (smK (iK out) (smK (b8K recv) (smK (iK inn) (smK (iK last) (smK (AV.bool can) (smK (AV.bool false) (smK (AV.slv 6 65 x0 (kcs L)) (smK (b8K root) (smK (b8K own) (smK (b8K peer) (smK (b8K send) (smK (iK out) (smK (b8K recv) (smK (iK inn) (smK (iK last) (smK (AV.bool can) (smK (AV.bool false) (smK (AV.slv 6 65 x0 (kcs L)) (smK (x0) (smK (z8K) (smK (b8K root) (smK (b8K own) (smK (b8K peer) (smK (b8K send) (smK (iK out) (smK (b8K recv) (smK (iK inn) (smK (iK last) (smK (AV.bool can) (smK (AV.bool false) (smK (AV.slv 6 65 x0 (kcs L)) (smK (b8K hk) (smK (iK hl) ((iK hn = iK hn) ∧ True))))))))))))))))))))))))))))))))))))))))))))))))))))))))))))))))))))))))
 (ite2 (Bool.not (tellS own hk))
 (K (AV.tup [AV.agg [z8K, z8K, z8K, z8K, iK 0, z8K, iK 0, iK 0, AV.bool false, AV.bool false, AV.vec true 65 []], AV.vec8 true [], iK 12]) [])
 (ite2 (Bool.not (tellS sec hk))
 (K (AV.tup [AV.agg [z8K, z8K, z8K, z8K, iK 0, z8K, iK 0, iK 0, AV.bool false, AV.bool false, AV.vec true 65 []], AV.vec8 true [], iK 12]) [])
 (ite2 (ltI hn 0)
 (K (AV.tup [AV.agg [z8K, z8K, z8K, z8K, iK 0, z8K, iK 0, iK 0, AV.bool false, AV.bool false, AV.vec true 65 []], AV.vec8 true [], iK 14]) [])
 (ite2 (hn == 1073741824)
 (K (AV.tup [AV.agg [z8K, z8K, z8K, z8K, iK 0, z8K, iK 0, iK 0, AV.bool false, AV.bool false, AV.vec true 65 []], AV.vec8 true [], iK 11]) [])
 (ite2 (cond false true (Bool.not (ltI 0 hn)))
 (cnd (x6)
 (cnd (x8)
 (ite2 (x9)
 (K (AV.tup [AV.agg [z8K, z8K, z8K, z8K, iK 0, z8K, iK 0, iK 0, AV.bool false, AV.bool false, AV.vec true 65 []], AV.vec8 true [], iK 1]) [])
 (ite2 (ltB x7 16)
 (K (AV.tup [AV.agg [z8K, z8K, z8K, z8K, iK 0, z8K, iK 0, iK 0, AV.bool false, AV.bool false, AV.vec true 65 []], AV.vec8 true [], iK 4]) [])
 (ite2 (badS (kmS x11) x10 (a ++ x5) b)
 (K (AV.tup [AV.agg [z8K, z8K, z8K, z8K, iK 0, z8K, iK 0, iK 0, AV.bool false, AV.bool false, AV.vec true 65 []], AV.vec8 true [], iK 10]) [])
 (K (AV.tup [AV.agg [b8K (rootS x12 sec hk), b8K sec, b8K hk, b8K (chainS x12 sec hk), iK 0, b8K (kcS x11), iK 1, iK out, AV.bool true, AV.bool true, AV.slv 0 65 x0 (kcs L)], AV.vec8 false (plainS (kmS x11) x10 b), iK 0]) [Ent.tail 65 x0]))))))
 (ite2 (ltI 8 (wr .i64 (subI hn 0)))
 (K (AV.tup [AV.agg [z8K, z8K, z8K, z8K, iK 0, z8K, iK 0, iK 0, AV.bool false, AV.bool false, AV.vec true 65 []], AV.vec8 true [], iK 6]) [])
 ((∃ w7 : Nat × Rt, (okS [AV.agg [b8K (rootS x12 sec hk), b8K sec, b8K hk, b8K (chainS x12 sec hk), iK 0, b8K x11, iK 0, iK out, AV.bool true, AV.bool true, AV.slv 6 65 x0 (kcs L)], iK hn] w7) ∧ ((iK hn = iK hn) ∧ ((iK 0 = iK 0) ∧ ((b8K (rootS x12 sec hk) = b8K (rootS x12 sec hk)) ∧ ((b8K sec = b8K sec) ∧ ((b8K hk = b8K hk) ∧ ((b8K (chainS x12 sec hk) = b8K (chainS x12 sec hk)) ∧ ((iK 0 = iK 0) ∧ ((b8K x11 = b8K x11) ∧ ((iK 0 = iK 0) ∧ ((iK out = iK out) ∧ ((AV.bool true = AV.bool true) ∧ ((AV.bool true = AV.bool true) ∧ ((x0 = x0) ∧ ((∀ w8 : Nat, (w8 < x0 → leR [b8K (Kp.peer (List.getD L w8 kp0)), iK (Kp.n (List.getD L w8 kp0)), b8K (Kp.key (List.getD L w8 kp0))] [b8K (Kp.peer (List.getD L w8 kp0)), iK (Kp.n (List.getD L w8 kp0)), b8K (Kp.key (List.getD L w8 kp0))])) ∧ ((b8K sec = b8K sec) ∧ ((b8K hk = b8K hk) ∧ ((iK hl = iK hl) ∧ ((iK hn = iK hn) ∧ ((z8K = z8K) ∧ ((z8K = z8K) ∧ ((z8K = z8K) ∧ ((z8K = z8K) ∧ ((iK 0 = iK 0) ∧ ((z8K = z8K) ∧ ((iK 0 = iK 0) ∧ ((iK 0 = iK 0) ∧ ((AV.bool false = AV.bool false) ∧ ((AV.bool false = AV.bool false) ∧ ((AV.vec true 65 [] = AV.vec true 65 []) ∧ ((z8K = z8K) ∧ ((b8K (rootS x12 sec hk) = b8K (Rt.root w7.2)) ∧ ((b8K sec = b8K (Rt.own w7.2)) ∧ ((b8K hk = b8K (Rt.peer w7.2)) ∧ ((b8K (chainS x12 sec hk) = b8K (Rt.send w7.2)) ∧ ((iK 0 = iK (Rt.out w7.2)) ∧ ((b8K x11 = b8K (chainN (Rt.recv w7.2) w7.1)) ∧ ((iK 0 = iK (cond false 0 ((Rt.inn w7.2) + (nK w7.1)))) ∧ ((iK out = iK (Rt.last w7.2)) ∧ ((AV.bool true = AV.bool (Rt.can w7.2)) ∧ ((AV.bool true = AV.bool (Rt.hear w7.2)) ∧ ((x0 = (List.length (Rt.kept w7.2)) + w7.1) ∧ ((∀ w9 : Nat, (w9 < ((List.length (Rt.kept w7.2)) + w7.1) → leR [b8K (Kp.peer (List.getD L w9 kp0)), iK (Kp.n (List.getD L w9 kp0)), b8K (Kp.key (List.getD L w9 kp0))] [b8K (Kp.peer (List.getD ((Rt.kept w7.2) ++ (skipN (Rt.peer w7.2) (Rt.inn w7.2) (Rt.recv w7.2) w7.1)) w9 kp0)), iK (Kp.n (List.getD ((Rt.kept w7.2) ++ (skipN (Rt.peer w7.2) (Rt.inn w7.2) (Rt.recv w7.2) w7.1)) w9 kp0)), b8K (Kp.key (List.getD ((Rt.kept w7.2) ++ (skipN (Rt.peer w7.2) (Rt.inn w7.2) (Rt.recv w7.2) w7.1)) w9 kp0))])) ∧ ((z8K = z8K) ∧ ((z8K = z8K) ∧ ((z8K = z8K) ∧ ((z8K = z8K) ∧ ((iK 0 = iK 0) ∧ ((z8K = z8K) ∧ ((iK 0 = iK 0) ∧ ((iK 0 = iK 0) ∧ ((AV.bool false = AV.bool false) ∧ ((AV.bool false = AV.bool false) ∧ ((AV.vec true 65 [] = AV.vec true 65 []) ∧ ((x0 = (List.length (Rt.kept w7.2)) + w7.1) ∧ True))))))))))))))))))))))))))))))))))))))))))))))))))))))) ∧ (∀ w10 : Nat × Rt, (okS [AV.agg [b8K (rootS x12 sec hk), b8K sec, b8K hk, b8K (chainS x12 sec hk), iK 0, b8K x11, iK 0, iK out, AV.bool true, AV.bool true, AV.slv 6 65 x0 (kcs L)], iK hn] w10 → ite2 (ltI (cond false 0 ((Rt.inn w10.2) + (nK w10.1))) hn)
 (cnd (((List.length (Rt.kept w10.2)) + w10.1) == ((List.length (Rt.kept w10.2)) + w10.1))
 (cnd (leB ((((List.length (Rt.kept w10.2)) + w10.1) + 1) * 72) x3)
 ((∃ w11 : Nat × Rt, ((((fun x => Inv.up (Prod.fst x)) w11) < ((fun x => Inv.up (Prod.fst x)) w10)) ∧ (okS [AV.agg [b8K (rootS x12 sec hk), b8K sec, b8K hk, b8K (chainS x12 sec hk), iK 0, b8K x11, iK 0, iK out, AV.bool true, AV.bool true, AV.slv 6 65 x0 (kcs L)], iK hn] w11)) ∧ (smK (iK hn) (smK (iK 0) (smK (b8K (rootS x12 sec hk)) (smK (b8K sec) (smK (b8K hk) (smK (b8K (chainS x12 sec hk)) (smK (iK 0) (smK (b8K x11) (smK (iK 0) (smK (iK out) (smK (AV.bool true) (smK (AV.bool true) (smK (x0) ((∀ w12 : Nat, (w12 < x0 → leR [b8K (Kp.peer (List.getD L w12 kp0)), iK (Kp.n (List.getD L w12 kp0)), b8K (Kp.key (List.getD L w12 kp0))] [b8K (Kp.peer (List.getD L w12 kp0)), iK (Kp.n (List.getD L w12 kp0)), b8K (Kp.key (List.getD L w12 kp0))])) ∧ (smK (b8K sec) (smK (b8K hk) (smK (iK hl) (smK (iK hn) (smK (z8K) (smK (z8K) (smK (z8K) (smK (z8K) (smK (iK 0) (smK (z8K) (smK (iK 0) (smK (iK 0) (smK (AV.bool false) (smK (AV.bool false) (smK (AV.vec true 65 []) (smK (z8K) ((b8K (Rt.root w10.2) = b8K (Rt.root w11.2)) ∧ ((b8K (Rt.own w10.2) = b8K (Rt.own w11.2)) ∧ ((b8K (Rt.peer w10.2) = b8K (Rt.peer w11.2)) ∧ ((b8K (Rt.send w10.2) = b8K (Rt.send w11.2)) ∧ ((iK (Rt.out w10.2) = iK (Rt.out w11.2)) ∧ ((b8K (kcS (chainN (Rt.recv w10.2) w10.1)) = b8K (chainN (Rt.recv w11.2) w11.1)) ∧ ((iK (wr .i64 ((cond false 0 ((Rt.inn w10.2) + (nK w10.1))) + 1)) = iK (cond false 0 ((Rt.inn w11.2) + (nK w11.1)))) ∧ ((iK (Rt.last w10.2) = iK (Rt.last w11.2)) ∧ ((AV.bool (Rt.can w10.2) = AV.bool (Rt.can w11.2)) ∧ ((AV.bool (Rt.hear w10.2) = AV.bool (Rt.hear w11.2)) ∧ ((((List.length (Rt.kept w10.2)) + w10.1) + 1 = (List.length (Rt.kept w11.2)) + w11.1) ∧ ((∀ w13 : Nat, (w13 < ((List.length (Rt.kept w11.2)) + w11.1) → leR (catF ((List.length (Rt.kept w10.2)) + w10.1) (kcs ((Rt.kept w10.2) ++ (skipN (Rt.peer w10.2) (Rt.inn w10.2) (Rt.recv w10.2) w10.1))) (rowF [AV.agg [b8K (Rt.peer w10.2), iK (cond false 0 ((Rt.inn w10.2) + (nK w10.1))), b8K (kmS (chainN (Rt.recv w10.2) w10.1))]]) w13) [b8K (Kp.peer (List.getD ((Rt.kept w11.2) ++ (skipN (Rt.peer w11.2) (Rt.inn w11.2) (Rt.recv w11.2) w11.1)) w13 kp0)), iK (Kp.n (List.getD ((Rt.kept w11.2) ++ (skipN (Rt.peer w11.2) (Rt.inn w11.2) (Rt.recv w11.2) w11.1)) w13 kp0)), b8K (Kp.key (List.getD ((Rt.kept w11.2) ++ (skipN (Rt.peer w11.2) (Rt.inn w11.2) (Rt.recv w11.2) w11.1)) w13 kp0))])) ∧ (smK (z8K) (smK (z8K) (smK (z8K) (smK (z8K) (smK (iK 0) (smK (z8K) (smK (iK 0) (smK (iK 0) (smK (AV.bool false) (smK (AV.bool false) (smK (AV.vec true 65 []) ((((List.length (Rt.kept w10.2)) + w10.1) + 1 = (List.length (Rt.kept w11.2)) + w11.1) ∧ True))))))))))))))))))))))))))))))))))))))))))))))))))))))))))
 (ite2 (ltI 0 (wr .i64 (subI ((((List.length (Rt.kept w10.2)) + w10.1) : Nat) : Int) 12)))
 (cnd (true && (sliceOk (some (wr .i64 (subI ((((List.length (Rt.kept w10.2)) + w10.1) : Nat) : Int) 12))) none ((List.length (Rt.kept w10.2)) + w10.1)))
 (cnd (x6)
 (cnd (x8)
 (ite2 (x9)
 (K (AV.tup [AV.agg [z8K, z8K, z8K, z8K, iK 0, z8K, iK 0, iK 0, AV.bool false, AV.bool false, AV.vec true 65 []], AV.vec8 true [], iK 1]) [])
 (ite2 (ltB x7 16)
 (K (AV.tup [AV.agg [z8K, z8K, z8K, z8K, iK 0, z8K, iK 0, iK 0, AV.bool false, AV.bool false, AV.vec true 65 []], AV.vec8 true [], iK 4]) [])
 (ite2 (badS (kmS (chainN (Rt.recv w10.2) w10.1)) x10 (a ++ x5) b)
 (K (AV.tup [AV.agg [z8K, z8K, z8K, z8K, iK 0, z8K, iK 0, iK 0, AV.bool false, AV.bool false, AV.vec true 65 []], AV.vec8 true [], iK 10]) [])
 (K (AV.tup [AV.agg [b8K (Rt.root w10.2), b8K (Rt.own w10.2), b8K (Rt.peer w10.2), b8K (Rt.send w10.2), iK (Rt.out w10.2), b8K (kcS (chainN (Rt.recv w10.2) w10.1)), iK (wr .i64 ((cond false 0 ((Rt.inn w10.2) + (nK w10.1))) + 1)), iK (Rt.last w10.2), AV.bool (Rt.can w10.2), AV.bool (Rt.hear w10.2), AV.vecr false 65 ((hiN ((List.length (Rt.kept w10.2)) + w10.1) none) - (loN (some (wr .i64 (subI ((((List.length (Rt.kept w10.2)) + w10.1) : Nat) : Int) 12))))) (fun i => kcs ((Rt.kept w10.2) ++ (skipN (Rt.peer w10.2) (Rt.inn w10.2) (Rt.recv w10.2) w10.1)) ((loN (some (wr .i64 (subI ((((List.length (Rt.kept w10.2)) + w10.1) : Nat) : Int) 12)))) + i))], AV.vec8 false (plainS (kmS (chainN (Rt.recv w10.2) w10.1)) x10 b), iK 0]) [])))))))
 (cnd (x6)
 (cnd (x8)
 (ite2 (x9)
 (K (AV.tup [AV.agg [z8K, z8K, z8K, z8K, iK 0, z8K, iK 0, iK 0, AV.bool false, AV.bool false, AV.vec true 65 []], AV.vec8 true [], iK 1]) [])
 (ite2 (ltB x7 16)
 (K (AV.tup [AV.agg [z8K, z8K, z8K, z8K, iK 0, z8K, iK 0, iK 0, AV.bool false, AV.bool false, AV.vec true 65 []], AV.vec8 true [], iK 4]) [])
 (ite2 (badS (kmS (chainN (Rt.recv w10.2) w10.1)) x10 (a ++ x5) b)
 (K (AV.tup [AV.agg [z8K, z8K, z8K, z8K, iK 0, z8K, iK 0, iK 0, AV.bool false, AV.bool false, AV.vec true 65 []], AV.vec8 true [], iK 10]) [])
 (K (AV.tup [AV.agg [b8K (Rt.root w10.2), b8K (Rt.own w10.2), b8K (Rt.peer w10.2), b8K (Rt.send w10.2), iK (Rt.out w10.2), b8K (kcS (chainN (Rt.recv w10.2) w10.1)), iK (wr .i64 ((cond false 0 ((Rt.inn w10.2) + (nK w10.1))) + 1)), iK (Rt.last w10.2), AV.bool (Rt.can w10.2), AV.bool (Rt.hear w10.2), AV.slv 0 65 ((List.length (Rt.kept w10.2)) + w10.1) (kcs ((Rt.kept w10.2) ++ (skipN (Rt.peer w10.2) (Rt.inn w10.2) (Rt.recv w10.2) w10.1)))], AV.vec8 false (plainS (kmS (chainN (Rt.recv w10.2) w10.1)) x10 b), iK 0]) [Ent.tail 65 ((List.length (Rt.kept w10.2)) + w10.1)])))))))))))))))))))))
 (K (AV.tup [AV.agg [z8K, z8K, z8K, z8K, iK 0, z8K, iK 0, iK 0, AV.bool false, AV.bool false, AV.vec true 65 []], AV.vec8 true [], iK 6]) [])))) := by kernel_rfl
theorem ropen1_eq (root own peer send : List UInt8) (out : Int) (recv : List UInt8) (inn last : Int) (can full : Bool) (L : List Kp) (sec : List UInt8) (fa : Bool) (a hk : List UInt8) (hl hn : Int) (fb : Bool) (b : List UInt8) (K : AV → Heap → Prop) : walk Tryd.E RF W2.C (fun f r => openP L hk hn f r) 4 11 [.agg [.b8 32 root, .b8 32 own, .b8 32 peer, .b8 32 send, .int .i64 out, .b8 32 recv, .int .i64 inn, .int .i64 last, .bool can, .bool true, .vecr full 65 L.length (kcs L)], .b8 32 sec, .vec8 fa a, .agg [.b8 32 hk, .int .i64 hl, .int .i64 hn], .vec8 fb b] K = (
 let x0 : Nat := (List.length L)
 let x1 : Int := (chkS out inn last (kpsOf x0 (kcs L)))
 let x2 : Nat := (List.length a)
 let x3 : Nat := 140737488355328
 let x4 : Int := ((x0 : Nat) : Int)
 let x5 : List UInt8 := (headS hk hl hn)
 let x6 : Bool := (leB x2 100000) && (leB (List.length x5) 100000)
 let x7 : Nat := (List.length b)
 let x8 : Bool := leB x7 1000000000
 let x9 : Bool := (ltB 200 (List.length (a ++ x5))) || (ltB 816 x7)
 let x10 : List UInt8 := [0, 0, 0, 0, 0, 0, 0, 0, 0, 0, 0, 0]
 let x11 : Bool := hn == 1073741824
 let x12 : List UInt8 := (chainS root own hk)
 let x13 : List UInt8 := (rootS root own hk)
 let x14 : List Ent := [Ent.tail 65 x0]
 cnd ((leB x0 1000000000) && (isKps x0 (kcs L)))
 (ite2 (x1 != 0)
 (K (AV.tup [AV.agg [z8K, z8K, z8K, z8K, iK 0, z8K, iK 0, iK 0, AV.bool false, AV.bool false, AV.vec true 65 []], AV.vec8 true [], iK x1]) [])
 (ite2 ((inN hl) && (inN hn))
 (ite2 (ltI 160 ((x2 : Nat) : Int))
 (K (AV.tup [AV.agg [z8K, z8K, z8K, z8K, iK 0, z8K, iK 0, iK 0, AV.bool false, AV.bool false, AV.vec true 65 []], AV.vec8 true [], iK 1]) [])
 (cnd (leB (x0 * 72) x3)
 ((∃ w0 : Nat, (okK L hk hn [iK x4] w0) ∧ ((x0 = x0) ∧ ((∀ w1 : Nat, (w1 < x0 → ([b8K (Kp.peer (List.getD L w1 kp0)), iK (Kp.n (List.getD L w1 kp0)), b8K (Kp.key (List.getD L w1 kp0))] = [b8K (Kp.peer (List.getD L w1 kp0)), iK (Kp.n (List.getD L w1 kp0)), b8K (Kp.key (List.getD L w1 kp0))]))) ∧ ((iK x4 = iK x4) ∧ ((iK 0 = iK (nK w0)) ∧ ((b8K root = b8K root) ∧ ((b8K own = b8K own) ∧ ((b8K peer = b8K peer) ∧ ((b8K send = b8K send) ∧ ((iK out = iK out) ∧ ((b8K recv = b8K recv) ∧ ((iK inn = iK inn) ∧ ((iK last = iK last) ∧ ((AV.bool can = AV.bool can) ∧ ((AV.bool true = AV.bool true) ∧ ((AV.slv 6 65 x0 (kcs L) = AV.slv 6 65 x0 (kcs L)) ∧ ((b8K sec = b8K sec) ∧ ((b8K hk = b8K hk) ∧ ((iK hl = iK hl) ∧ ((iK hn = iK hn) ∧ ((z8K = z8K) ∧ ((z8K = z8K) ∧ ((z8K = z8K) ∧ ((z8K = z8K) ∧ ((iK 0 = iK 0) ∧ ((z8K = z8K) ∧ ((iK 0 = iK 0) ∧ ((iK 0 = iK 0) ∧ ((AV.bool false = AV.bool false) ∧ ((AV.bool false = AV.bool false) ∧ ((AV.vec true 65 [] = AV.vec true 65 []) ∧ ((b8K root = b8K root) ∧ ((b8K own = b8K own) ∧ ((b8K peer = b8K peer) ∧ ((b8K send = b8K send) ∧ ((iK out = iK out) ∧ ((b8K recv = b8K recv) ∧ ((iK inn = iK inn) ∧ ((iK last = iK last) ∧ ((AV.bool can = AV.bool can) ∧ ((AV.bool true = AV.bool true) ∧ ((AV.slv 6 65 x0 (kcs L) = AV.slv 6 65 x0 (kcs L)) ∧ ((b8K root = b8K root) ∧ ((b8K own = b8K own) ∧ ((b8K peer = b8K peer) ∧ ((b8K send = b8K send) ∧ ((iK out = iK out) ∧ ((b8K recv = b8K recv) ∧ ((iK inn = iK inn) ∧ ((iK last = iK last) ∧ ((AV.bool can = AV.bool can) ∧ ((AV.bool true = AV.bool true) ∧ ((AV.slv 6 65 x0 (kcs L) = AV.slv 6 65 x0 (kcs L)) ∧ ((x0 = x0) ∧ ((z8K = z8K) ∧ ((b8K root = b8K root) ∧ ((b8K own = b8K own) ∧ ((b8K peer = b8K peer) ∧ ((b8K send = b8K send) ∧ ((iK out = iK out) ∧ ((b8K recv = b8K recv) ∧ ((iK inn = iK inn) ∧ ((iK last = iK last) ∧ ((AV.bool can = AV.bool can) ∧ ((AV.bool true = AV.bool true) ∧ ((AV.slv 6 65 x0 (kcs L) = AV.slv 6 65 x0 (kcs L)) ∧ ((b8K hk = b8K hk) ∧ ((iK hl = iK hl) ∧ ((iK hn = iK hn) ∧ True))))))))))))))))))))))))))))))))))))))))))))))))))))))))))))))))))))) ∧ (∀ w2 : Nat, (okK L hk hn [iK x4] w2 → ite2 (ltI (nK w2) x4)
 (cnd ((inB (nK w2) x0) && true)
 (ite2 ((Kp.peer (List.getD L (Int.toNat (nK w2)) kp0)) == hk)
 (ite2 (cond true ((Kp.n (List.getD L (Int.toNat (nK w2)) kp0)) == hn) false)
 (cnd ((inB (nK w2) x0) && true)
 (cnd ((true && ((nK w2) == (nK w2))) && (sliceOk none (some (nK w2)) x0))
 (cnd (true && (sliceOk (some (wr .i64 ((nK w2) + 1))) none x0))
 (cnd (leB ((((hiN x0 (some (nK w2))) - 0) + ((hiN x0 none) - (loN (some (wr .i64 ((nK w2) + 1)))))) * 72) x3)
 (cnd (x6)
 (cnd (x8)
 (ite2 (x9)
 (K (AV.tup [AV.agg [z8K, z8K, z8K, z8K, iK 0, z8K, iK 0, iK 0, AV.bool false, AV.bool false, AV.vec true 65 []], AV.vec8 true [], iK 1]) [])
 (ite2 (ltB x7 16)
 (K (AV.tup [AV.agg [z8K, z8K, z8K, z8K, iK 0, z8K, iK 0, iK 0, AV.bool false, AV.bool false, AV.vec true 65 []], AV.vec8 true [], iK 4]) [])
 (ite2 (badS (Kp.key (List.getD L (Int.toNat (nK w2)) kp0)) x10 (a ++ x5) b)
 (K (AV.tup [AV.agg [z8K, z8K, z8K, z8K, iK 0, z8K, iK 0, iK 0, AV.bool false, AV.bool false, AV.vec true 65 []], AV.vec8 true [], iK 10]) [])
 (K (AV.tup [AV.agg [b8K root, b8K own, b8K peer, b8K send, iK out, b8K recv, iK inn, iK last, AV.bool can, AV.bool true, AV.vecr false 65 (((hiN x0 (some (nK w2))) - 0) + ((hiN x0 none) - (loN (some (wr .i64 ((nK w2) + 1)))))) (catF ((hiN x0 (some (nK w2))) - 0) (fun i => kcs L ((loN none) + i)) (fun i => kcs L ((loN (some (wr .i64 ((nK w2) + 1)))) + i)))], AV.vec8 false (plainS (Kp.key (List.getD L (Int.toNat (nK w2)) kp0)) x10 b), iK 0]) []))))))))))
 ((∃ w3 : Nat, (((Inv.up w3) < (Inv.up w2)) ∧ (okK L hk hn [iK x4] w3)) ∧ (smK (x0) ((∀ w4 : Nat, (w4 < x0 → ([b8K (Kp.peer (List.getD L w4 kp0)), iK (Kp.n (List.getD L w4 kp0)), b8K (Kp.key (List.getD L w4 kp0))] = [b8K (Kp.peer (List.getD L w4 kp0)), iK (Kp.n (List.getD L w4 kp0)), b8K (Kp.key (List.getD L w4 kp0))]))) ∧ (smK (iK x4) ((iK (wr .i64 ((nK w2) + 1)) = iK (nK w3)) ∧ (smK (b8K root) (smK (b8K own) (smK (b8K peer) (smK (b8K send) (smK (iK out) (smK (b8K recv) (smK (iK inn) (smK (iK last) (smK (AV.bool can) (smK (AV.bool true) (smK (AV.slv 6 65 x0 (kcs L)) (smK (b8K sec) (smK (b8K hk) (smK (iK hl) (smK (iK hn) (smK (z8K) (smK (z8K) (smK (z8K) (smK (z8K) (smK (iK 0) (smK (z8K) (smK (iK 0) (smK (iK 0) (smK (AV.bool false) (smK (AV.bool false) (smK (AV.vec true 65 []) (smK (b8K root) (smK (b8K own) (smK (b8K peer) (smK (b8K send) (smK (iK out) (smK (b8K recv) (smK (iK inn) (smK (iK last) (smK (AV.bool can) (smK (AV.bool true) (smK (AV.slv 6 65 x0 (kcs L)) (smK (b8K root) (smK (b8K own) (smK (b8K peer) (smK (b8K send) (smK (iK out) (smK (b8K recv) (smK (iK inn) (smK (iK last) (smK (AV.bool can) (smK (AV.bool true) (smK (AV.slv 6 65 x0 (kcs L)) (smK (x0) (smK (z8K) (smK (b8K root) (smK (b8K own) (smK (b8K peer) (smK (b8K send) (smK (iK out) (smK (b8K recv) (smK (iK inn) (smK (iK last) (smK (AV.bool can) (smK (AV.bool true) (smK (AV.slv 6 65 x0 (kcs L)) (smK (b8K hk) (smK (iK hl) ((iK hn = iK hn) ∧ True)))))))))))))))))))))))))))))))))))))))))))))))))))))))))))))))))))))))
 ((∃ w5 : Nat, (((Inv.up w5) < (Inv.up w2)) ∧ (okK L hk hn [iK x4] w5)) ∧ (smK (x0) ((∀ w6 : Nat, (w6 < x0 → ([b8K (Kp.peer (List.getD L w6 kp0)), iK (Kp.n (List.getD L w6 kp0)), b8K (Kp.key (List.getD L w6 kp0))] = [b8K (Kp.peer (List.getD L w6 kp0)), iK (Kp.n (List.getD L w6 kp0)), b8K (Kp.key (List.getD L w6 kp0))]))) ∧ (smK (iK x4) ((iK (wr .i64 ((nK w2) + 1)) = iK (nK w5)) ∧ (smK (b8K root) (smK (b8K own) (smK (b8K peer) (smK (b8K send) (smK (iK out) (smK (b8K recv) (smK (iK inn) (smK (iK last) (smK (AV.bool can) (smK (AV.bool true) (smK (AV.slv 6 65 x0 (kcs L)) (smK (b8K sec) (smK (b8K hk) (smK (iK hl) (smK (iK hn) (smK (z8K) (smK (z8K) (smK (z8K) (smK (z8K) (smK (iK 0) (smK (z8K) (smK (iK 0) (smK (iK 0) (smK (AV.bool false) (smK (AV.bool false) (smK (AV.vec true 65 []) (smK (b8K root) (smK (b8K own) (smK (b8K peer) (smK (b8K send) (smK (iK out) (smK (b8K recv) (smK (iK inn) (smK (iK last) (smK (AV.bool can) (smK (AV.bool true) (smK (AV.slv 6 65 x0 (kcs L)) (smK (b8K root) (smK (b8K own) (smK (b8K peer) (smK (b8K send) (smK (iK out) (smK (b8K recv) (smK (iK inn) (smK (iK last) (smK (AV.bool can) (smK (AV.bool true) (smK (AV.slv 6 65 x0 (kcs L)) (smK (x0) (smK (z8K) (smK (b8K root) (smK (b8K own) (smK (b8K peer) (smK (b8K send) (smK (iK out) (smK (b8K recv) (smK (iK inn) (smK (iK last) (smK (AV.bool can) (smK (AV.bool true) (smK (AV.slv 6 65 x0 (kcs L)) (smK (b8K hk) (smK (iK hl) ((iK hn = iK hn) ∧ True))))))))))))))))))))))))))))))))))))))))))))))))))))))))))))))))))))))))
 (ite2 (cond false true (Bool.not (hk == peer)))
 (ite2 (cond false true (Bool.not (ltI inn hl)))
 (ite2 (Bool.not (tellS own hk))
 (K (AV.tup [AV.agg [z8K, z8K, z8K, z8K, iK 0, z8K, iK 0, iK 0, AV.bool false, AV.bool false, AV.vec true 65 []], AV.vec8 true [], iK 12]) [])
 (ite2 (Bool.not (tellS sec hk))
 (K (AV.tup [AV.agg [z8K, z8K, z8K, z8K, iK 0, z8K, iK 0, iK 0, AV.bool false, AV.bool false, AV.vec true 65 []], AV.vec8 true [], iK 12]) [])
 (ite2 (ltI hn 0)
 (K (AV.tup [AV.agg [z8K, z8K, z8K, z8K, iK 0, z8K, iK 0, iK 0, AV.bool false, AV.bool false, AV.vec true 65 []], AV.vec8 true [], iK 14]) [])
 (ite2 (x11)
 (K (AV.tup [AV.agg [z8K, z8K, z8K, z8K, iK 0, z8K, iK 0, iK 0, AV.bool false, AV.bool false, AV.vec true 65 []], AV.vec8 true [], iK 11]) [])
 (ite2 (cond false true (Bool.not (ltI 0 hn)))
 (cnd (x6)
 (cnd (x8)
 (ite2 (x9)
 (K (AV.tup [AV.agg [z8K, z8K, z8K, z8K, iK 0, z8K, iK 0, iK 0, AV.bool false, AV.bool false, AV.vec true 65 []], AV.vec8 true [], iK 1]) [])
 (ite2 (ltB x7 16)
 (K (AV.tup [AV.agg [z8K, z8K, z8K, z8K, iK 0, z8K, iK 0, iK 0, AV.bool false, AV.bool false, AV.vec true 65 []], AV.vec8 true [], iK 4]) [])
 (ite2 (badS (kmS x12) x10 (a ++ x5) b)
 (K (AV.tup [AV.agg [z8K, z8K, z8K, z8K, iK 0, z8K, iK 0, iK 0, AV.bool false, AV.bool false, AV.vec true 65 []], AV.vec8 true [], iK 10]) [])
 (K (AV.tup [AV.agg [b8K (rootS x13 sec hk), b8K sec, b8K hk, b8K (chainS x13 sec hk), iK 0, b8K (kcS x12), iK 1, iK out, AV.bool true, AV.bool true, AV.slv 0 65 x0 (kcs L)], AV.vec8 false (plainS (kmS x12) x10 b), iK 0]) x14))))))
 (ite2 (ltI 8 (wr .i64 (subI hn 0)))
 (K (AV.tup [AV.agg [z8K, z8K, z8K, z8K, iK 0, z8K, iK 0, iK 0, AV.bool false, AV.bool false, AV.vec true 65 []], AV.vec8 true [], iK 6]) [])
 ((∃ w7 : Nat × Rt, (okS [AV.agg [b8K (rootS x13 sec hk), b8K sec, b8K hk, b8K (chainS x13 sec hk), iK 0, b8K x12, iK 0, iK out, AV.bool true, AV.bool true, AV.slv 6 65 x0 (kcs L)], iK hn] w7) ∧ ((iK hn = iK hn) ∧ ((iK 0 = iK 0) ∧ ((b8K (rootS x13 sec hk) = b8K (rootS x13 sec hk)) ∧ ((b8K sec = b8K sec) ∧ ((b8K hk = b8K hk) ∧ ((b8K (chainS x13 sec hk) = b8K (chainS x13 sec hk)) ∧ ((iK 0 = iK 0) ∧ ((b8K x12 = b8K x12) ∧ ((iK 0 = iK 0) ∧ ((iK out = iK out) ∧ ((AV.bool true = AV.bool true) ∧ ((AV.bool true = AV.bool true) ∧ ((x0 = x0) ∧ ((∀ w8 : Nat, (w8 < x0 → leR [b8K (Kp.peer (List.getD L w8 kp0)), iK (Kp.n (List.getD L w8 kp0)), b8K (Kp.key (List.getD L w8 kp0))] [b8K (Kp.peer (List.getD L w8 kp0)), iK (Kp.n (List.getD L w8 kp0)), b8K (Kp.key (List.getD L w8 kp0))])) ∧ ((b8K sec = b8K sec) ∧ ((b8K hk = b8K hk) ∧ ((iK hl = iK hl) ∧ ((iK hn = iK hn) ∧ ((z8K = z8K) ∧ ((z8K = z8K) ∧ ((z8K = z8K) ∧ ((z8K = z8K) ∧ ((iK 0 = iK 0) ∧ ((z8K = z8K) ∧ ((iK 0 = iK 0) ∧ ((iK 0 = iK 0) ∧ ((AV.bool false = AV.bool false) ∧ ((AV.bool false = AV.bool false) ∧ ((AV.vec true 65 [] = AV.vec true 65 []) ∧ ((z8K = z8K) ∧ ((b8K (rootS x13 sec hk) = b8K (Rt.root w7.2)) ∧ ((b8K sec = b8K (Rt.own w7.2)) ∧ ((b8K hk = b8K (Rt.peer w7.2)) ∧ ((b8K (chainS x13 sec hk) = b8K (Rt.send w7.2)) ∧ ((iK 0 = iK (Rt.out w7.2)) ∧ ((b8K x12 = b8K (chainN (Rt.recv w7.2) w7.1)) ∧ ((iK 0 = iK (cond false 0 ((Rt.inn w7.2) + (nK w7.1)))) ∧ ((iK out = iK (Rt.last w7.2)) ∧ ((AV.bool true = AV.bool (Rt.can w7.2)) ∧ ((AV.bool true = AV.bool (Rt.hear w7.2)) ∧ ((x0 = (List.length (Rt.kept w7.2)) + w7.1) ∧ ((∀ w9 : Nat, (w9 < ((List.length (Rt.kept w7.2)) + w7.1) → leR [b8K (Kp.peer (List.getD L w9 kp0)), iK (Kp.n (List.getD L w9 kp0)), b8K (Kp.key (List.getD L w9 kp0))] [b8K (Kp.peer (List.getD ((Rt.kept w7.2) ++ (skipN (Rt.peer w7.2) (Rt.inn w7.2) (Rt.recv w7.2) w7.1)) w9 kp0)), iK (Kp.n (List.getD ((Rt.kept w7.2) ++ (skipN (Rt.peer w7.2) (Rt.inn w7.2) (Rt.recv w7.2) w7.1)) w9 kp0)), b8K (Kp.key (List.getD ((Rt.kept w7.2) ++ (skipN (Rt.peer w7.2) (Rt.inn w7.2) (Rt.recv w7.2) w7.1)) w9 kp0))])) ∧ ((z8K = z8K) ∧ ((z8K = z8K) ∧ ((z8K = z8K) ∧ ((z8K = z8K) ∧ ((iK 0 = iK 0) ∧ ((z8K = z8K) ∧ ((iK 0 = iK 0) ∧ ((iK 0 = iK 0) ∧ ((AV.bool false = AV.bool false) ∧ ((AV.bool false = AV.bool false) ∧ ((AV.vec true 65 [] = AV.vec true 65 []) ∧ ((x0 = (List.length (Rt.kept w7.2)) + w7.1) ∧ True))))))))))))))))))))))))))))))))))))))))))))))))))))))) ∧ (∀ w10 : Nat × Rt, (okS [AV.agg [b8K (rootS x13 sec hk), b8K sec, b8K hk, b8K (chainS x13 sec hk), iK 0, b8K x12, iK 0, iK out, AV.bool true, AV.bool true, AV.slv 6 65 x0 (kcs L)], iK hn] w10 → ite2 (ltI (cond false 0 ((Rt.inn w10.2) + (nK w10.1))) hn)
 (cnd (((List.length (Rt.kept w10.2)) + w10.1) == ((List.length (Rt.kept w10.2)) + w10.1))
 (cnd (leB ((((List.length (Rt.kept w10.2)) + w10.1) + 1) * 72) x3)
 ((∃ w11 : Nat × Rt, ((((fun x => Inv.up (Prod.fst x)) w11) < ((fun x => Inv.up (Prod.fst x)) w10)) ∧ (okS [AV.agg [b8K (rootS x13 sec hk), b8K sec, b8K hk, b8K (chainS x13 sec hk), iK 0, b8K x12, iK 0, iK out, AV.bool true, AV.bool true, AV.slv 6 65 x0 (kcs L)], iK hn] w11)) ∧ (smK (iK hn) (smK (iK 0) (smK (b8K (rootS x13 sec hk)) (smK (b8K sec) (smK (b8K hk) (smK (b8K (chainS x13 sec hk)) (smK (iK 0) (smK (b8K x12) (smK (iK 0) (smK (iK out) (smK (AV.bool true) (smK (AV.bool true) (smK (x0) ((∀ w12 : Nat, (w12 < x0 → leR [b8K (Kp.peer (List.getD L w12 kp0)), iK (Kp.n (List.getD L w12 kp0)), b8K (Kp.key (List.getD L w12 kp0))] [b8K (Kp.peer (List.getD L w12 kp0)), iK (Kp.n (List.getD L w12 kp0)), b8K (Kp.key (List.getD L w12 kp0))])) ∧ (smK (b8K sec) (smK (b8K hk) (smK (iK hl) (smK (iK hn) (smK (z8K) (smK (z8K) (smK (z8K) (smK (z8K) (smK (iK 0) (smK (z8K) (smK (iK 0) (smK (iK 0) (smK (AV.bool false) (smK (AV.bool false) (smK (AV.vec true 65 []) (smK (z8K) ((b8K (Rt.root w10.2) = b8K (Rt.root w11.2)) ∧ ((b8K (Rt.own w10.2) = b8K (Rt.own w11.2)) ∧ ((b8K (Rt.peer w10.2) = b8K (Rt.peer w11.2)) ∧ ((b8K (Rt.send w10.2) = b8K (Rt.send w11.2)) ∧ ((iK (Rt.out w10.2) = iK (Rt.out w11.2)) ∧ ((b8K (kcS (chainN (Rt.recv w10.2) w10.1)) = b8K (chainN (Rt.recv w11.2) w11.1)) ∧ ((iK (wr .i64 ((cond false 0 ((Rt.inn w10.2) + (nK w10.1))) + 1)) = iK (cond false 0 ((Rt.inn w11.2) + (nK w11.1)))) ∧ ((iK (Rt.last w10.2) = iK (Rt.last w11.2)) ∧ ((AV.bool (Rt.can w10.2) = AV.bool (Rt.can w11.2)) ∧ ((AV.bool (Rt.hear w10.2) = AV.bool (Rt.hear w11.2)) ∧ ((((List.length (Rt.kept w10.2)) + w10.1) + 1 = (List.length (Rt.kept w11.2)) + w11.1) ∧ ((∀ w13 : Nat, (w13 < ((List.length (Rt.kept w11.2)) + w11.1) → leR (catF ((List.length (Rt.kept w10.2)) + w10.1) (kcs ((Rt.kept w10.2) ++ (skipN (Rt.peer w10.2) (Rt.inn w10.2) (Rt.recv w10.2) w10.1))) (rowF [AV.agg [b8K (Rt.peer w10.2), iK (cond false 0 ((Rt.inn w10.2) + (nK w10.1))), b8K (kmS (chainN (Rt.recv w10.2) w10.1))]]) w13) [b8K (Kp.peer (List.getD ((Rt.kept w11.2) ++ (skipN (Rt.peer w11.2) (Rt.inn w11.2) (Rt.recv w11.2) w11.1)) w13 kp0)), iK (Kp.n (List.getD ((Rt.kept w11.2) ++ (skipN (Rt.peer w11.2) (Rt.inn w11.2) (Rt.recv w11.2) w11.1)) w13 kp0)), b8K (Kp.key (List.getD ((Rt.kept w11.2) ++ (skipN (Rt.peer w11.2) (Rt.inn w11.2) (Rt.recv w11.2) w11.1)) w13 kp0))])) ∧ (smK (z8K) (smK (z8K) (smK (z8K) (smK (z8K) (smK (iK 0) (smK (z8K) (smK (iK 0) (smK (iK 0) (smK (AV.bool false) (smK (AV.bool false) (smK (AV.vec true 65 []) ((((List.length (Rt.kept w10.2)) + w10.1) + 1 = (List.length (Rt.kept w11.2)) + w11.1) ∧ True))))))))))))))))))))))))))))))))))))))))))))))))))))))))))
 (ite2 (ltI 0 (wr .i64 (subI ((((List.length (Rt.kept w10.2)) + w10.1) : Nat) : Int) 12)))
 (cnd (true && (sliceOk (some (wr .i64 (subI ((((List.length (Rt.kept w10.2)) + w10.1) : Nat) : Int) 12))) none ((List.length (Rt.kept w10.2)) + w10.1)))
 (cnd (x6)
 (cnd (x8)
 (ite2 (x9)
 (K (AV.tup [AV.agg [z8K, z8K, z8K, z8K, iK 0, z8K, iK 0, iK 0, AV.bool false, AV.bool false, AV.vec true 65 []], AV.vec8 true [], iK 1]) [])
 (ite2 (ltB x7 16)
 (K (AV.tup [AV.agg [z8K, z8K, z8K, z8K, iK 0, z8K, iK 0, iK 0, AV.bool false, AV.bool false, AV.vec true 65 []], AV.vec8 true [], iK 4]) [])
 (ite2 (badS (kmS (chainN (Rt.recv w10.2) w10.1)) x10 (a ++ x5) b)
 (K (AV.tup [AV.agg [z8K, z8K, z8K, z8K, iK 0, z8K, iK 0, iK 0, AV.bool false, AV.bool false, AV.vec true 65 []], AV.vec8 true [], iK 10]) [])
 (K (AV.tup [AV.agg [b8K (Rt.root w10.2), b8K (Rt.own w10.2), b8K (Rt.peer w10.2), b8K (Rt.send w10.2), iK (Rt.out w10.2), b8K (kcS (chainN (Rt.recv w10.2) w10.1)), iK (wr .i64 ((cond false 0 ((Rt.inn w10.2) + (nK w10.1))) + 1)), iK (Rt.last w10.2), AV.bool (Rt.can w10.2), AV.bool (Rt.hear w10.2), AV.vecr false 65 ((hiN ((List.length (Rt.kept w10.2)) + w10.1) none) - (loN (some (wr .i64 (subI ((((List.length (Rt.kept w10.2)) + w10.1) : Nat) : Int) 12))))) (fun i => kcs ((Rt.kept w10.2) ++ (skipN (Rt.peer w10.2) (Rt.inn w10.2) (Rt.recv w10.2) w10.1)) ((loN (some (wr .i64 (subI ((((List.length (Rt.kept w10.2)) + w10.1) : Nat) : Int) 12)))) + i))], AV.vec8 false (plainS (kmS (chainN (Rt.recv w10.2) w10.1)) x10 b), iK 0]) [])))))))
 (cnd (x6)
 (cnd (x8)
 (ite2 (x9)
 (K (AV.tup [AV.agg [z8K, z8K, z8K, z8K, iK 0, z8K, iK 0, iK 0, AV.bool false, AV.bool false, AV.vec true 65 []], AV.vec8 true [], iK 1]) [])
 (ite2 (ltB x7 16)
 (K (AV.tup [AV.agg [z8K, z8K, z8K, z8K, iK 0, z8K, iK 0, iK 0, AV.bool false, AV.bool false, AV.vec true 65 []], AV.vec8 true [], iK 4]) [])
 (ite2 (badS (kmS (chainN (Rt.recv w10.2) w10.1)) x10 (a ++ x5) b)
 (K (AV.tup [AV.agg [z8K, z8K, z8K, z8K, iK 0, z8K, iK 0, iK 0, AV.bool false, AV.bool false, AV.vec true 65 []], AV.vec8 true [], iK 10]) [])
 (K (AV.tup [AV.agg [b8K (Rt.root w10.2), b8K (Rt.own w10.2), b8K (Rt.peer w10.2), b8K (Rt.send w10.2), iK (Rt.out w10.2), b8K (kcS (chainN (Rt.recv w10.2) w10.1)), iK (wr .i64 ((cond false 0 ((Rt.inn w10.2) + (nK w10.1))) + 1)), iK (Rt.last w10.2), AV.bool (Rt.can w10.2), AV.bool (Rt.hear w10.2), AV.slv 0 65 ((List.length (Rt.kept w10.2)) + w10.1) (kcs ((Rt.kept w10.2) ++ (skipN (Rt.peer w10.2) (Rt.inn w10.2) (Rt.recv w10.2) w10.1)))], AV.vec8 false (plainS (kmS (chainN (Rt.recv w10.2) w10.1)) x10 b), iK 0]) [Ent.tail 65 ((List.length (Rt.kept w10.2)) + w10.1)]))))))))))))))))
 (ite2 (ltI 8 (wr .i64 (subI hl inn)))
 (K (AV.tup [AV.agg [z8K, z8K, z8K, z8K, iK 0, z8K, iK 0, iK 0, AV.bool false, AV.bool false, AV.vec true 65 []], AV.vec8 true [], iK 6]) [])
 ((∃ w14 : Nat × Rt, (okS [AV.agg [b8K root, b8K own, b8K peer, b8K send, iK out, b8K recv, iK inn, iK last, AV.bool can, AV.bool true, AV.slv 6 65 x0 (kcs L)], iK hl] w14) ∧ ((iK hl = iK 1) ∧ ((iK 0 = iK 0) ∧ ((b8K root = b8K root) ∧ ((b8K own = b8K own) ∧ ((b8K peer = b8K peer) ∧ ((b8K send = b8K send) ∧ ((iK out = iK out) ∧ ((b8K recv = b8K recv) ∧ ((iK inn = iK inn) ∧ ((iK last = iK last) ∧ ((AV.bool can = AV.bool can) ∧ ((AV.bool true = AV.bool true) ∧ ((x0 = x0) ∧ ((∀ w15 : Nat, (w15 < x0 → leR [b8K (Kp.peer (List.getD L w15 kp0)), iK (Kp.n (List.getD L w15 kp0)), b8K (Kp.key (List.getD L w15 kp0))] [b8K (Kp.peer (List.getD L w15 kp0)), iK (Kp.n (List.getD L w15 kp0)), b8K (Kp.key (List.getD L w15 kp0))])) ∧ ((b8K sec = b8K sec) ∧ ((b8K hk = b8K hk) ∧ ((iK hl = iK hl) ∧ ((iK hn = iK hn) ∧ ((z8K = z8K) ∧ ((z8K = z8K) ∧ ((z8K = z8K) ∧ ((z8K = z8K) ∧ ((iK 0 = iK 0) ∧ ((z8K = z8K) ∧ ((iK 0 = iK 0) ∧ ((iK 0 = iK 0) ∧ ((AV.bool false = AV.bool false) ∧ ((AV.bool false = AV.bool false) ∧ ((AV.vec true 65 [] = AV.vec true 65 []) ∧ ((z8K = z8K) ∧ ((b8K root = b8K root) ∧ ((b8K own = b8K own) ∧ ((b8K peer = b8K peer) ∧ ((b8K send = b8K send) ∧ ((iK out = iK out) ∧ ((b8K recv = b8K recv) ∧ ((iK inn = iK inn) ∧ ((iK last = iK last) ∧ ((AV.bool can = AV.bool can) ∧ ((AV.bool true = AV.bool true) ∧ ((x0 = x0) ∧ ((∀ w16 : Nat, (w16 < x0 → leR [b8K (Kp.peer (List.getD L w16 kp0)), iK (Kp.n (List.getD L w16 kp0)), b8K (Kp.key (List.getD L w16 kp0))] [b8K (Kp.peer (List.getD L w16 kp0)), iK (Kp.n (List.getD L w16 kp0)), b8K (Kp.key (List.getD L w16 kp0))])) ∧ ((b8K sec = b8K sec) ∧ ((b8K hk = b8K hk) ∧ ((iK hl = iK hl) ∧ ((iK hn = iK hn) ∧ ((z8K = z8K) ∧ ((z8K = z8K) ∧ ((z8K = z8K) ∧ ((z8K = z8K) ∧ ((iK 0 = iK 0) ∧ ((z8K = z8K) ∧ ((iK 0 = iK 0) ∧ ((iK 0 = iK 0) ∧ ((AV.bool false = AV.bool false) ∧ ((AV.bool false = AV.bool false) ∧ ((AV.vec true 65 [] = AV.vec true 65 []) ∧ ((b8K root = b8K (Rt.root w14.2)) ∧ ((b8K own = b8K (Rt.own w14.2)) ∧ ((b8K peer = b8K (Rt.peer w14.2)) ∧ ((b8K send = b8K (Rt.send w14.2)) ∧ ((iK out = iK (Rt.out w14.2)) ∧ ((b8K recv = b8K (chainN (Rt.recv w14.2) w14.1)) ∧ ((iK inn = iK 0) ∧ ((iK last = iK (Rt.last w14.2)) ∧ ((AV.bool can = AV.bool (Rt.can w14.2)) ∧ ((AV.bool true = AV.bool (Rt.hear w14.2)) ∧ stuckC)))))))))))))))))))))))))))))))))))))))))))))))))))))))))))))))))))) ∧ (∀ w17 : Nat × Rt, (okS [AV.agg [b8K root, b8K own, b8K peer, b8K send, iK out, b8K recv, iK inn, iK last, AV.bool can, AV.bool true, AV.slv 6 65 x0 (kcs L)], iK hl] w17 → stuckC)))))
 (ite2 (ltI hn inn)
 (K (AV.tup [AV.agg [z8K, z8K, z8K, z8K, iK 0, z8K, iK 0, iK 0, AV.bool false, AV.bool false, AV.vec true 65 []], AV.vec8 true [], iK 14]) [])
 (ite2 (x11)
 (K (AV.tup [AV.agg [z8K, z8K, z8K, z8K, iK 0, z8K, iK 0, iK 0, AV.bool false, AV.bool false, AV.vec true 65 []], AV.vec8 true [], iK 11]) [])
 (ite2 (cond false true (Bool.not (ltI inn hn)))
 (cnd (x6)
 (cnd (x8)
 (ite2 (x9)
 (K (AV.tup [AV.agg [z8K, z8K, z8K, z8K, iK 0, z8K, iK 0, iK 0, AV.bool false, AV.bool false, AV.vec true 65 []], AV.vec8 true [], iK 1]) [])
 (ite2 (ltB x7 16)
 (K (AV.tup [AV.agg [z8K, z8K, z8K, z8K, iK 0, z8K, iK 0, iK 0, AV.bool false, AV.bool false, AV.vec true 65 []], AV.vec8 true [], iK 4]) [])
 (ite2 (badS (kmS recv) x10 (a ++ x5) b)
 (K (AV.tup [AV.agg [z8K, z8K, z8K, z8K, iK 0, z8K, iK 0, iK 0, AV.bool false, AV.bool false, AV.vec true 65 []], AV.vec8 true [], iK 10]) [])
 (K (AV.tup [AV.agg [b8K root, b8K own, b8K peer, b8K send, iK out, b8K (kcS recv), iK (wr .i64 (inn + 1)), iK last, AV.bool can, AV.bool true, AV.slv 0 65 x0 (kcs L)], AV.vec8 false (plainS (kmS recv) x10 b), iK 0]) x14))))))
 (ite2 (ltI 8 (wr .i64 (subI hn inn)))
 (K (AV.tup [AV.agg [z8K, z8K, z8K, z8K, iK 0, z8K, iK 0, iK 0, AV.bool false, AV.bool false, AV.vec true 65 []], AV.vec8 true [], iK 6]) [])
 ((∃ w18 : Nat × Rt, (okS [AV.agg [b8K root, b8K own, b8K peer, b8K send, iK out, b8K recv, iK inn, iK last, AV.bool can, AV.bool true, AV.slv 6 65 x0 (kcs L)], iK hn] w18) ∧ ((iK hn = iK hn) ∧ ((iK 0 = iK 0) ∧ ((b8K root = b8K root) ∧ ((b8K own = b8K own) ∧ ((b8K peer = b8K peer) ∧ ((b8K send = b8K send) ∧ ((iK out = iK out) ∧ ((b8K recv = b8K recv) ∧ ((iK inn = iK inn) ∧ ((iK last = iK last) ∧ ((AV.bool can = AV.bool can) ∧ ((AV.bool true = AV.bool true) ∧ ((x0 = x0) ∧ ((∀ w19 : Nat, (w19 < x0 → leR [b8K (Kp.peer (List.getD L w19 kp0)), iK (Kp.n (List.getD L w19 kp0)), b8K (Kp.key (List.getD L w19 kp0))] [b8K (Kp.peer (List.getD L w19 kp0)), iK (Kp.n (List.getD L w19 kp0)), b8K (Kp.key (List.getD L w19 kp0))])) ∧ ((b8K sec = b8K sec) ∧ ((b8K hk = b8K hk) ∧ ((iK hl = iK hl) ∧ ((iK hn = iK hn) ∧ ((z8K = z8K) ∧ ((z8K = z8K) ∧ ((z8K = z8K) ∧ ((z8K = z8K) ∧ ((iK 0 = iK 0) ∧ ((z8K = z8K) ∧ ((iK 0 = iK 0) ∧ ((iK 0 = iK 0) ∧ ((AV.bool false = AV.bool false) ∧ ((AV.bool false = AV.bool false) ∧ ((AV.vec true 65 [] = AV.vec true 65 []) ∧ ((z8K = z8K) ∧ ((b8K root = b8K (Rt.root w18.2)) ∧ ((b8K own = b8K (Rt.own w18.2)) ∧ ((b8K peer = b8K (Rt.peer w18.2)) ∧ ((b8K send = b8K (Rt.send w18.2)) ∧ ((iK out = iK (Rt.out w18.2)) ∧ ((b8K recv = b8K (chainN (Rt.recv w18.2) w18.1)) ∧ ((iK inn = iK (cond false 0 ((Rt.inn w18.2) + (nK w18.1)))) ∧ ((iK last = iK (Rt.last w18.2)) ∧ ((AV.bool can = AV.bool (Rt.can w18.2)) ∧ ((AV.bool true = AV.bool (Rt.hear w18.2)) ∧ ((x0 = (List.length (Rt.kept w18.2)) + w18.1) ∧ ((∀ w20 : Nat, (w20 < ((List.length (Rt.kept w18.2)) + w18.1) → leR [b8K (Kp.peer (List.getD L w20 kp0)), iK (Kp.n (List.getD L w20 kp0)), b8K (Kp.key (List.getD L w20 kp0))] [b8K (Kp.peer (List.getD ((Rt.kept w18.2) ++ (skipN (Rt.peer w18.2) (Rt.inn w18.2) (Rt.recv w18.2) w18.1)) w20 kp0)), iK (Kp.n (List.getD ((Rt.kept w18.2) ++ (skipN (Rt.peer w18.2) (Rt.inn w18.2) (Rt.recv w18.2) w18.1)) w20 kp0)), b8K (Kp.key (List.getD ((Rt.kept w18.2) ++ (skipN (Rt.peer w18.2) (Rt.inn w18.2) (Rt.recv w18.2) w18.1)) w20 kp0))])) ∧ ((z8K = z8K) ∧ ((z8K = z8K) ∧ ((z8K = z8K) ∧ ((z8K = z8K) ∧ ((iK 0 = iK 0) ∧ ((z8K = z8K) ∧ ((iK 0 = iK 0) ∧ ((iK 0 = iK 0) ∧ ((AV.bool false = AV.bool false) ∧ ((AV.bool false = AV.bool false) ∧ ((AV.vec true 65 [] = AV.vec true 65 []) ∧ ((x0 = (List.length (Rt.kept w18.2)) + w18.1) ∧ True))))))))))))))))))))))))))))))))))))))))))))))))))))))) ∧ (∀ w21 : Nat × Rt, (okS [AV.agg [b8K root, b8K own, b8K peer, b8K send, iK out, b8K recv, iK inn, iK last, AV.bool can, AV.bool true, AV.slv 6 65 x0 (kcs L)], iK hn] w21 → ite2 (ltI (cond false 0 ((Rt.inn w21.2) + (nK w21.1))) hn)
 (cnd (((List.length (Rt.kept w21.2)) + w21.1) == ((List.length (Rt.kept w21.2)) + w21.1))
 (cnd (leB ((((List.length (Rt.kept w21.2)) + w21.1) + 1) * 72) x3)
 ((∃ w22 : Nat × Rt, ((((fun x => Inv.up (Prod.fst x)) w22) < ((fun x => Inv.up (Prod.fst x)) w21)) ∧ (okS [AV.agg [b8K root, b8K own, b8K peer, b8K send, iK out, b8K recv, iK inn, iK last, AV.bool can, AV.bool true, AV.slv 6 65 x0 (kcs L)], iK hn] w22)) ∧ (smK (iK hn) (smK (iK 0) (smK (b8K root) (smK (b8K own) (smK (b8K peer) (smK (b8K send) (smK (iK out) (smK (b8K recv) (smK (iK inn) (smK (iK last) (smK (AV.bool can) (smK (AV.bool true) (smK (x0) ((∀ w23 : Nat, (w23 < x0 → leR [b8K (Kp.peer (List.getD L w23 kp0)), iK (Kp.n (List.getD L w23 kp0)), b8K (Kp.key (List.getD L w23 kp0))] [b8K (Kp.peer (List.getD L w23 kp0)), iK (Kp.n (List.getD L w23 kp0)), b8K (Kp.key (List.getD L w23 kp0))])) ∧ (smK (b8K sec) (smK (b8K hk) (smK (iK hl) (smK (iK hn) (smK (z8K) (smK (z8K) (smK (z8K) (smK (z8K) (smK (iK 0) (smK (z8K) (smK (iK 0) (smK (iK 0) (smK (AV.bool false) (smK (AV.bool false) (smK (AV.vec true 65 []) (smK (z8K) ((b8K (Rt.root w21.2) = b8K (Rt.root w22.2)) ∧ ((b8K (Rt.own w21.2) = b8K (Rt.own w22.2)) ∧ ((b8K (Rt.peer w21.2) = b8K (Rt.peer w22.2)) ∧ ((b8K (Rt.send w21.2) = b8K (Rt.send w22.2)) ∧ ((iK (Rt.out w21.2) = iK (Rt.out w22.2)) ∧ ((b8K (kcS (chainN (Rt.recv w21.2) w21.1)) = b8K (chainN (Rt.recv w22.2) w22.1)) ∧ ((iK (wr .i64 ((cond false 0 ((Rt.inn w21.2) + (nK w21.1))) + 1)) = iK (cond false 0 ((Rt.inn w22.2) + (nK w22.1)))) ∧ ((iK (Rt.last w21.2) = iK (Rt.last w22.2)) ∧ ((AV.bool (Rt.can w21.2) = AV.bool (Rt.can w22.2)) ∧ ((AV.bool (Rt.hear w21.2) = AV.bool (Rt.hear w22.2)) ∧ ((((List.length (Rt.kept w21.2)) + w21.1) + 1 = (List.length (Rt.kept w22.2)) + w22.1) ∧ ((∀ w24 : Nat, (w24 < ((List.length (Rt.kept w22.2)) + w22.1) → leR (catF ((List.length (Rt.kept w21.2)) + w21.1) (kcs ((Rt.kept w21.2) ++ (skipN (Rt.peer w21.2) (Rt.inn w21.2) (Rt.recv w21.2) w21.1))) (rowF [AV.agg [b8K (Rt.peer w21.2), iK (cond false 0 ((Rt.inn w21.2) + (nK w21.1))), b8K (kmS (chainN (Rt.recv w21.2) w21.1))]]) w24) [b8K (Kp.peer (List.getD ((Rt.kept w22.2) ++ (skipN (Rt.peer w22.2) (Rt.inn w22.2) (Rt.recv w22.2) w22.1)) w24 kp0)), iK (Kp.n (List.getD ((Rt.kept w22.2) ++ (skipN (Rt.peer w22.2) (Rt.inn w22.2) (Rt.recv w22.2) w22.1)) w24 kp0)), b8K (Kp.key (List.getD ((Rt.kept w22.2) ++ (skipN (Rt.peer w22.2) (Rt.inn w22.2) (Rt.recv w22.2) w22.1)) w24 kp0))])) ∧ (smK (z8K) (smK (z8K) (smK (z8K) (smK (z8K) (smK (iK 0) (smK (z8K) (smK (iK 0) (smK (iK 0) (smK (AV.bool false) (smK (AV.bool false) (smK (AV.vec true 65 []) ((((List.length (Rt.kept w21.2)) + w21.1) + 1 = (List.length (Rt.kept w22.2)) + w22.1) ∧ True))))))))))))))))))))))))))))))))))))))))))))))))))))))))))
 (ite2 (ltI 0 (wr .i64 (subI ((((List.length (Rt.kept w21.2)) + w21.1) : Nat) : Int) 12)))
 (cnd (true && (sliceOk (some (wr .i64 (subI ((((List.length (Rt.kept w21.2)) + w21.1) : Nat) : Int) 12))) none ((List.length (Rt.kept w21.2)) + w21.1)))
 (cnd (x6)
 (cnd (x8)
 (ite2 (x9)
 (K (AV.tup [AV.agg [z8K, z8K, z8K, z8K, iK 0, z8K, iK 0, iK 0, AV.bool false, AV.bool false, AV.vec true 65 []], AV.vec8 true [], iK 1]) [])
 (ite2 (ltB x7 16)
 (K (AV.tup [AV.agg [z8K, z8K, z8K, z8K, iK 0, z8K, iK 0, iK 0, AV.bool false, AV.bool false, AV.vec true 65 []], AV.vec8 true [], iK 4]) [])
 (ite2 (badS (kmS (chainN (Rt.recv w21.2) w21.1)) x10 (a ++ x5) b)
 (K (AV.tup [AV.agg [z8K, z8K, z8K, z8K, iK 0, z8K, iK 0, iK 0, AV.bool false, AV.bool false, AV.vec true 65 []], AV.vec8 true [], iK 10]) [])
 (K (AV.tup [AV.agg [b8K (Rt.root w21.2), b8K (Rt.own w21.2), b8K (Rt.peer w21.2), b8K (Rt.send w21.2), iK (Rt.out w21.2), b8K (kcS (chainN (Rt.recv w21.2) w21.1)), iK (wr .i64 ((cond false 0 ((Rt.inn w21.2) + (nK w21.1))) + 1)), iK (Rt.last w21.2), AV.bool (Rt.can w21.2), AV.bool (Rt.hear w21.2), AV.vecr false 65 ((hiN ((List.length (Rt.kept w21.2)) + w21.1) none) - (loN (some (wr .i64 (subI ((((List.length (Rt.kept w21.2)) + w21.1) : Nat) : Int) 12))))) (fun i => kcs ((Rt.kept w21.2) ++ (skipN (Rt.peer w21.2) (Rt.inn w21.2) (Rt.recv w21.2) w21.1)) ((loN (some (wr .i64 (subI ((((List.length (Rt.kept w21.2)) + w21.1) : Nat) : Int) 12)))) + i))], AV.vec8 false (plainS (kmS (chainN (Rt.recv w21.2) w21.1)) x10 b), iK 0]) [])))))))
 (cnd (x6)
 (cnd (x8)
 (ite2 (x9)
 (K (AV.tup [AV.agg [z8K, z8K, z8K, z8K, iK 0, z8K, iK 0, iK 0, AV.bool false, AV.bool false, AV.vec true 65 []], AV.vec8 true [], iK 1]) [])
 (ite2 (ltB x7 16)
 (K (AV.tup [AV.agg [z8K, z8K, z8K, z8K, iK 0, z8K, iK 0, iK 0, AV.bool false, AV.bool false, AV.vec true 65 []], AV.vec8 true [], iK 4]) [])
 (ite2 (badS (kmS (chainN (Rt.recv w21.2) w21.1)) x10 (a ++ x5) b)
 (K (AV.tup [AV.agg [z8K, z8K, z8K, z8K, iK 0, z8K, iK 0, iK 0, AV.bool false, AV.bool false, AV.vec true 65 []], AV.vec8 true [], iK 10]) [])
 (K (AV.tup [AV.agg [b8K (Rt.root w21.2), b8K (Rt.own w21.2), b8K (Rt.peer w21.2), b8K (Rt.send w21.2), iK (Rt.out w21.2), b8K (kcS (chainN (Rt.recv w21.2) w21.1)), iK (wr .i64 ((cond false 0 ((Rt.inn w21.2) + (nK w21.1))) + 1)), iK (Rt.last w21.2), AV.bool (Rt.can w21.2), AV.bool (Rt.hear w21.2), AV.slv 0 65 ((List.length (Rt.kept w21.2)) + w21.1) (kcs ((Rt.kept w21.2) ++ (skipN (Rt.peer w21.2) (Rt.inn w21.2) (Rt.recv w21.2) w21.1)))], AV.vec8 false (plainS (kmS (chainN (Rt.recv w21.2) w21.1)) x10 b), iK 0]) [Ent.tail 65 ((List.length (Rt.kept w21.2)) + w21.1)]))))))))))))))))))))
 (K (AV.tup [AV.agg [z8K, z8K, z8K, z8K, iK 0, z8K, iK 0, iK 0, AV.bool false, AV.bool false, AV.vec true 65 []], AV.vec8 true [], iK 6]) [])))) := by kernel_rfl
def z12 : List UInt8 := [0, 0, 0, 0, 0, 0, 0, 0, 0, 0, 0, 0]
noncomputable def sealF' (r : Rt) (a b : List UInt8) : Rt × (List UInt8 × Int × Int) × List UInt8 × Int :=
 if chkS r.out r.inn r.last r.kept ≠ 0 then (rt0, (z32, 0, 0), [], chkS r.out r.inn r.last r.kept)
 else if r.can = false then (rt0, (z32, 0, 0), [], 9)
 else if 400 < b.length ∨ 160 < a.length then (rt0, (z32, 0, 0), [], 1)
 else if r.out = 1073741824 then (rt0, (z32, 0, 0), [], 11)
 else ({ r with send := kcS r.send, out := r.out + 1 }, (pubS r.own, r.last, r.out), sealS (kmS r.send) z12 (a ++ headS (pubS r.own) r.last r.out) b, 0)
noncomputable def skipF (r : Rt) (to : Int) : Rt × Int :=
 if r.hear = false ∨ to ≤ r.inn then (r, 0)
 else if 8 < to - r.inn then (r, 6)
 else ({ r with kept := (r.kept ++ skipN r.peer r.inn r.recv (to - r.inn).toNat).drop ((r.kept ++ skipN r.peer r.inn r.recv (to - r.inn).toNat).length - 12), recv := chainN r.recv (to - r.inn).toNat, inn := to }, 0)
def errT (e : Int) : Rt × List UInt8 × Int := (rt0, [], e)
noncomputable def openEnd (key : List UInt8) (r : Rt) (ad b : List UInt8) : Rt × List UInt8 × Int :=
 if (ltB 200 ad.length || ltB 816 b.length) = true then errT 1 else if ltB b.length 16 = true then errT 4 else if badS key z12 ad b = true then errT 10 else (r, plainS key z12 b, 0)
noncomputable def openTail (r : Rt) (hn : Int) (ad b : List UInt8) : Rt × List UInt8 × Int :=
 if hn < r.inn then errT 14 else if hn = 1073741824 then errT 11
 else if (skipF r hn).2 ≠ 0 then errT (skipF r hn).2
 else openEnd (kmS (skipF r hn).1.recv) { (skipF r hn).1 with recv := kcS (skipF r hn).1.recv, inn := (skipF r hn).1.inn + 1 } ad b
noncomputable def turnF (r : Rt) (sec hk : List UInt8) : Rt := ⟨rootS (rootS r.root r.own hk) sec hk, sec, hk, chainS (rootS r.root r.own hk) sec hk, 0, chainS r.root r.own hk, 0, r.out, true, true, r.kept⟩
def isKp (hk : List UInt8) (hn : Int) (k : Kp) : Bool := k.peer == hk && k.n == hn
noncomputable def openF (r : Rt) (sec a hk : List UInt8) (hl hn : Int) (b : List UInt8) : Rt × List UInt8 × Int :=
 if chkS r.out r.inn r.last r.kept ≠ 0 then errT (chkS r.out r.inn r.last r.kept)
 else if (inN hl && inN hn) = false then errT 6
 else if 160 < a.length then errT 1
 else match r.kept.findIdx? (isKp hk hn) with
  | some i => openEnd (r.kept.getD i kp0).key { r with kept := r.kept.eraseIdx i } (a ++ headS hk hl hn) b
  | none => if r.hear = false ∨ hk ≠ r.peer then
    (if (skipF r hl).2 ≠ 0 then errT (skipF r hl).2
    else if tellS r.own hk = false then errT 12
    else if tellS sec hk = false then errT 12
    else openTail (turnF (skipF r hl).1 sec hk) hn (a ++ headS hk hl hn) b)
   else openTail r hn (a ++ headS hk hl hn) b
noncomputable def sealRS : Rt → List UInt8 → List UInt8 → Rt × (List UInt8 × Int × Int) × List UInt8 × Int := (sealed sealF').val
theorem sealRS_eq (r : Rt) (a b : List UInt8) : sealRS r a b = sealF' r a b := by rw [sealRS, (sealed sealF').property]
noncomputable def openRS : Rt → List UInt8 → List UInt8 → List UInt8 → Int → Int → List UInt8 → Rt × List UInt8 × Int := (sealed openF).val
theorem openRS_eq (r : Rt) (sec a hk : List UInt8) (hl hn : Int) (b : List UInt8) : openRS r sec a hk hl hn b = openF r sec a hk hl hn b := by rw [openRS, (sealed openF).property]
noncomputable def sealOut (x : Rt × (List UInt8 × Int × Int) × List UInt8 × Int) : Out := .ret (.tup [x.1.rv, .agg [.b8 32 x.2.1.1, .int .i64 x.2.1.2.1, .int .i64 x.2.1.2.2], .vec8 false x.2.2.1, .int .i64 x.2.2.2]) []
noncomputable def openOut (x : Rt × List UInt8 × Int) : Out := .ret (.tup [x.1.rv, .vec8 false x.2.1, .int .i64 x.2.2]) []
theorem rv_le {r : Rt} {k : AV} (h : leR [k] [.vecr false 65 r.kept.length (kcs r.kept)]) : leV (r.av k) r.rv := by
 refine leV_agg ?_
 exact leR_same rfl (leR_same rfl (leR_same rfl (leR_same rfl (leR_same rfl (leR_same rfl (leR_same rfl (leR_same rfl (leR_same rfl (leR_same rfl h)))))))))
theorem nil_rows {k : AV} (h : nilS k = true) : leR [k] [.vecr false 65 rt0.kept.length (kcs rt0.kept)] := leR_nil h leR_end
theorem vec8_nil : leV (.vec8 true []) (.vec8 false []) := leV_nil8 rfl
theorem open_err {o : Rt × List UInt8 × Int} {e : Int} (h : o = errT e) : okOut (openOut o) (.tup [rt0.av (.vec true 65 []), .vec8 true [], .int .i64 e]) [] := by
 subst h
 exact okOut.cold (v' := .tup [rt0.av (.vec true 65 []), .vec8 true [], .int .i64 e]) (u := []) rfl (leV_tup (leRV_cons (rv_le (nil_rows rfl)) (leRV_cons vec8_nil (leRV_cons (leV.refl _) leRV_nil)))) rfl ⟨rfl, rfl⟩
theorem open_slv {o : Rt × List UInt8 × Int} {r : Rt} {t : List UInt8} {n : Nat} {f : Nat → List AV} (h : o = (r, t, 0)) (hn : n = r.kept.length) (hf : ∀ i, i < n → f i = kcs r.kept i) :
  okOut (openOut o) (.tup [r.av (.slv 0 65 n f), .vec8 false t, .int .i64 0]) [.tail 65 n] := by
 subst h; subst hn
 refine okOut.cold (v' := .tup [r.av (.vecr false 65 r.kept.length f), .vec8 false t, .int .i64 0]) (u := []) rfl (leV_tup (leRV_cons (rv_le ?_) (leRV_cons (leV.refl _) (leRV_cons (leV.refl _) leRV_nil)))) rfl ⟨rfl, rfl⟩
 exact leR_vecr (c := 0) id (fun x hx => leR.of_eq (kcs_ok _ x).ok (hf x hx)) leR_end
theorem open_vecr {o : Rt × List UInt8 × Int} {r : Rt} {t : List UInt8} {n : Nat} {f : Nat → List AV} (h : o = (r, t, 0)) (hn : n = r.kept.length) (hf : ∀ i, i < n → f i = kcs r.kept i) :
  okOut (openOut o) (.tup [r.av (.vecr false 65 n f), .vec8 false t, .int .i64 0]) [] := by
 subst h; subst hn
 refine okOut.cold (v' := .tup [r.av (.vecr false 65 r.kept.length f), .vec8 false t, .int .i64 0]) (u := []) rfl (leV_tup (leRV_cons (rv_le ?_) (leRV_cons (leV.refl _) (leRV_cons (leV.refl _) leRV_nil)))) rfl ⟨rfl, rfl⟩
 exact leR_vecr (c := 0) id (fun x hx => leR.of_eq (kcs_ok _ x).ok (hf x hx)) leR_end
theorem open_end {o : Rt × List UInt8 × Int} {key ad b : List UInt8} {r : Rt} {x6 x8 : Bool} {K : Prop} (ho : o = openEnd key r ad b) (h6 : x6 = true) (h8 : x8 = true) (good : o = (r, plainS key z12 b, 0) → K) :
  cnd x6 (cnd x8 (ite2 (ltB 200 ad.length || ltB 816 b.length) (okOut (openOut o) (.tup [rt0.av (.vec true 65 []), .vec8 true [], .int .i64 1]) [])
   (ite2 (ltB b.length 16) (okOut (openOut o) (.tup [rt0.av (.vec true 65 []), .vec8 true [], .int .i64 4]) [])
    (ite2 (badS key z12 ad b) (okOut (openOut o) (.tup [rt0.av (.vec true 65 []), .vec8 true [], .int .i64 10]) []) K)))) := by
 rw [h6, h8]
 unfold openEnd at ho
 refine ite2_iff.2 ⟨fun h => open_err (by rw [ho, if_pos h]), fun h => ite2_iff.2 ⟨fun h2 => open_err (by rw [ho, if_neg (by rw [h]; simp), if_pos h2]), fun h2 => ite2_iff.2 ⟨fun h3 => open_err (by rw [ho, if_neg (by rw [h]; simp), if_neg (by rw [h2]; simp), if_pos h3]), fun h3 => good (by rw [ho, if_neg (by rw [h]; simp), if_neg (by rw [h2]; simp), if_neg (by rw [h3]; simp)])⟩⟩⟩
theorem rchk_of {out inn last : Int} {L : List Kp} (h : chkS out inn last L = 0) : chkP out inn last L := by
 refine Classical.byContradiction fun hn => ?_
 rw [chkS_bad hn] at h
 exact absurd h (by decide)
theorem seal_err {o : Rt × (List UInt8 × Int × Int) × List UInt8 × Int} {e : Int} (h : o = (rt0, (z32, 0, 0), [], e)) : okOut (sealOut o) (.tup [rt0.av (.vec true 65 []), .agg [.b8 32 z32, .int .i64 0, .int .i64 0], .vec8 true [], .int .i64 e]) [] := by
 subst h
 exact okOut.cold (v' := .tup [rt0.av (.vec true 65 []), .agg [.b8 32 z32, .int .i64 0, .int .i64 0], .vec8 true [], .int .i64 e]) (u := []) rfl (leV_tup (leRV_cons (rv_le (nil_rows rfl)) (leRV_cons (leV.refl _) (leRV_cons vec8_nil (leRV_cons (leV.refl _) leRV_nil))))) rfl ⟨rfl, rfl⟩
theorem seal_slv {o : Rt × (List UInt8 × Int × Int) × List UInt8 × Int} {r : Rt} {h : List UInt8 × Int × Int} {c : List UInt8} {n : Nat} {f : Nat → List AV} (ho : o = (r, h, c, 0)) (hn : n = r.kept.length) (hf : ∀ i, i < n → f i = kcs r.kept i) :
  okOut (sealOut o) (.tup [r.av (.slv 0 65 n f), .agg [.b8 32 h.1, .int .i64 h.2.1, .int .i64 h.2.2], .vec8 false c, .int .i64 0]) [.tail 65 n] := by
 subst ho; subst hn
 refine okOut.cold (v' := .tup [r.av (.vecr false 65 r.kept.length f), .agg [.b8 32 h.1, .int .i64 h.2.1, .int .i64 h.2.2], .vec8 false c, .int .i64 0]) (u := []) rfl (leV_tup (leRV_cons (rv_le ?_) (leRV_cons (leV.refl _) (leRV_cons (leV.refl _) (leRV_cons (leV.refl _) leRV_nil))))) rfl ⟨rfl, rfl⟩
 exact leR_vecr (c := 0) id (fun x hx => leR.of_eq (kcs_ok _ x).ok (hf x hx)) leR_end
theorem rseal_c (root own peer send : List UInt8) (out : Int) (recv : List UInt8) (inn last : Int) (can hear full : Bool) (L : List Kp) (fa fb : Bool) (a b : List UInt8) (hL : L.length ≤ 1000000000) (ha : a.length ≤ 1000000000) :
  HCall Tryd.E 10 [.agg [.b8 32 root, .b8 32 own, .b8 32 peer, .b8 32 send, .int .i64 out, .b8 32 recv, .int .i64 inn, .int .i64 last, .bool can, .bool hear, .vecr full 65 L.length (kcs L)], .vec8 fa a, .vec8 fb b]
   (sealOut (sealRS ⟨root, own, peer, send, out, recv, inn, last, can, hear, L⟩ a b)) := by
 refine HCall.of_walkC (R := RF) (T := W2) (fun _ _ => .unroll 6) 4 rfl rfl ?_
 rw [rseal_eq]
 dsimp only [iK, b8K, z8K, smK, q1K, q2K, nK, rvK]
 rw [sealRS_eq]
 have hd : sealF' ⟨root, own, peer, send, out, recv, inn, last, can, hear, L⟩ a b = _ := rfl
 generalize hO : sealF' ⟨root, own, peer, send, out, recv, inn, last, can, hear, L⟩ a b = o at hd ⊢
 unfold sealF' at hO
 rw [kpsOf_eq L rfl (fun _ _ => rfl)]
 rw [leB_of hL, isKps_kcs]
 refine ite2_iff.2 ⟨fun h1 => seal_err ?_, fun h1 => ite2_iff.2 ⟨fun h2 => seal_err ?_, fun h2 => ite2_iff.2 ⟨fun h3 => seal_err ?_, fun h3 => ite2_iff.2 ⟨fun h4 => seal_err ?_, fun h4 => ite2_iff.2 ⟨fun h5 => seal_err ?_, fun h5 => ?_⟩⟩⟩⟩⟩
 ·rw [← hO, if_pos (by simpa using h1)]
 all_goals have h1' : chkS out inn last L = 0 := by simpa using h1
 ·rw [← hO, if_neg (by simpa using h1'), if_pos (by simpa using h2)]
 all_goals have h2' : ¬ can = false := by simpa using h2
 ·rw [ltI_iff] at h3
  rw [← hO, if_neg (by simpa using h1'), if_neg h2', if_pos (.inl (by omega))]
 all_goals have h3' : ¬ 400 < b.length := fun h => by rw [show ltI 400 ((b.length : Nat) : Int) = true from (ltI_iff _ _).2 (by omega)] at h3; cases h3
 ·have h4 : ltI 160 ((a.length : Nat) : Int) = true := h4
  rw [ltI_iff] at h4
  rw [← hO, if_neg (by simpa using h1'), if_neg h2', if_pos (.inr (by omega))]
 all_goals have h4' : ¬ 160 < a.length := fun h => by
             have h4 : ltI 160 ((a.length : Nat) : Int) = false := h4
             rw [show ltI 160 ((a.length : Nat) : Int) = true from (ltI_iff _ _).2 (by omega)] at h4; cases h4
 ·rw [← hO, if_neg (by simpa using h1'), if_neg h2', if_neg (fun h => h.elim h3' h4'), if_pos (by simpa using h5)]
 have h5' : ¬ out = 1073741824 := by simpa using h5
 rw [if_neg (by simpa using h1'), if_neg h2', if_neg (fun h => h.elim h3' h4'), if_neg h5'] at hO
 obtain ⟨p1, p2, p3, p4, p5⟩ := rchk_of h1'
 have hb := inN_iff.1 p1
 rw [p1, p3]
 have hh : (headS (pubS own) last out).length = 40 := length_headS (length_pubS _) _ _
 rw [leB_of (by omega), leB_of (by omega)]
 have hlen : (a ++ headS (pubS own) last out).length = a.length + 40 := by rw [List.length_append, hh]
 rw [hlen, show ltB 200 (a.length + 40) = false from Bool.not_eq_true _ ▸ fun h => by have := ltB_iff.1 h; omega, show ltB 800 b.length = false from Bool.not_eq_true _ ▸ fun h => by have := ltB_iff.1 h; omega, leB_of (by omega), wr_of (by omega) (by omega)]
 exact seal_slv hO.symm rfl fun _ _ => rfl
theorem okS_iff {R : Rt} {id : Nat} {to : Int} {x : Nat × Rt} : okS [R.av (.slv id 65 R.kept.length (kcs R.kept)), .int .i64 to] x ↔ x.2 = R ∧ R.inn + (x.1 : Int) ≤ to := by
 show (((x.2.root = R.root ∧ x.2.own = R.own ∧ x.2.peer = R.peer ∧ x.2.send = R.send ∧ x.2.out = R.out ∧ x.2.recv = R.recv) ∧ (x.2.inn = R.inn ∧ x.2.last = R.last ∧ x.2.can = R.can ∧ x.2.hear = R.hear ∧ R.kept.length = x.2.kept.length ∧ ∀ i, i < R.kept.length → kcs R.kept i = kcs x.2.kept i)) ∧ R.inn + (x.1 : Int) ≤ to) ↔ _
 constructor
 ·rintro ⟨⟨⟨h1, h2, h3, h4, h5, h6⟩, h7, h8, h9, h10, h11, h12⟩, h⟩
  refine ⟨?_, h⟩
  have := kcs_inj h11 h12
  obtain ⟨j, r⟩ := x
  cases r; cases R
  simp only at *
  subst h1 h2 h3 h4 h5 h6 h7 h8 h9 h10 this
  rfl
 ·rintro ⟨h1, h2⟩
  rw [h1]
  exact ⟨⟨⟨rfl, rfl, rfl, rfl, rfl, rfl⟩, rfl, rfl, rfl, rfl, rfl, fun _ _ => rfl⟩, h2⟩
theorem skip_rows (L : List Kp) (p : List UInt8) (i : Int) (c : List UInt8) (j : Nat) {x : Nat} (hx : x < L.length + j + 1) :
  catF (L.length + j) (kcs (L ++ skipN p i c j)) (rowF [.agg [.b8 32 p, .int .i64 (i + (j : Int)), .b8 32 (kmS (chainN c j))]]) x = kcs (L ++ skipN p i c (j + 1)) x := by
 have hl : (L ++ skipN p i c j).length = L.length + j := by rw [List.length_append, length_skipN]
 rw [skipN, ← List.append_assoc]
 unfold catF
 cases hb : ltB x (L.length + j) with
 | true => exact (kcs_app1 (by rw [hl]; exact ltB_iff.1 hb)).symm
 | false =>
  have : ¬ x < L.length + j := fun h => by rw [ltB_iff.2 h] at hb; cases hb
  obtain rfl : x = L.length + j := by omega
  have := kcs_app2 (a := L ++ skipN p i c j) (b := [⟨p, i + (j : Int), kmS (chainN c j)⟩]) (x := 0)
  rw [hl, Nat.add_zero] at this
  rw [this, Nat.sub_self]
  rfl
theorem skip_eq {R : Rt} {hn : Int} {j : Nat} (hear : R.hear = true) (h3 : R.inn < hn) (h4 : hn - R.inn ≤ 8) (hj : R.inn + (j : Int) = hn) :
  skipF R hn = ({ R with kept := (R.kept ++ skipN R.peer R.inn R.recv j).drop (R.kept.length + j - 12), recv := chainN R.recv j, inn := hn }, 0) := by
 unfold skipF
 rw [if_neg (by rw [hear]; simp; omega), if_neg (by omega), show (hn - R.inn).toNat = j by omega, List.length_append, length_skipN]
theorem kcs_drop (l : List Kp) (k i : Nat) : kcs l (k + i) = kcs (l.drop k) i := by
 unfold kcs; rw [List.getD_eq_getElem?_getD, List.getD_eq_getElem?_getD, List.getElem?_drop]
theorem skip_leaf {o : Rt × List UInt8 × Int} {R : Rt} {j : Nat} {hn : Int} {ad b : List UInt8} {x6 x8 : Bool} (ho : o = openTail R hn ad b) (hear : R.hear = true) (h2 : hn ≠ 1073741824) (h0 : 0 ≤ R.inn) (hm : hn ≤ 1073741824) (h3 : R.inn < hn) (h4 : hn - R.inn ≤ 8) (hj : R.inn + (j : Int) = hn) (hk : R.kept.length ≤ 12) (h6 : x6 = true) (h8 : x8 = true) :
  ite2 (ltI 0 (wr .i64 (subI (((R.kept.length + j : Nat)) : Int) 12)))
   (cnd (true && sliceOk (some (wr .i64 (subI (((R.kept.length + j : Nat)) : Int) 12))) none (R.kept.length + j))
    (cnd x6 (cnd x8 (ite2 (ltB 200 ad.length || ltB 816 b.length) (okOut (openOut o) (.tup [rt0.av (.vec true 65 []), .vec8 true [], .int .i64 1]) [])
     (ite2 (ltB b.length 16) (okOut (openOut o) (.tup [rt0.av (.vec true 65 []), .vec8 true [], .int .i64 4]) [])
     (ite2 (badS (kmS (chainN R.recv j)) z12 ad b) (okOut (openOut o) (.tup [rt0.av (.vec true 65 []), .vec8 true [], .int .i64 10]) [])
      (okOut (openOut o) (.tup [.agg [.b8 32 R.root, .b8 32 R.own, .b8 32 R.peer, .b8 32 R.send, .int .i64 R.out, .b8 32 (kcS (chainN R.recv j)), .int .i64 (wr .i64 (R.inn + (j : Int) + 1)), .int .i64 R.last, .bool R.can, .bool R.hear,
       .vecr false 65 (hiN (R.kept.length + j) none - loN (some (wr .i64 (subI (((R.kept.length + j : Nat)) : Int) 12)))) (fun i => kcs (R.kept ++ skipN R.peer R.inn R.recv j) (loN (some (wr .i64 (subI (((R.kept.length + j : Nat)) : Int) 12))) + i))],
       .vec8 false (plainS (kmS (chainN R.recv j)) z12 b), .int .i64 0]) [])))))))
   (cnd x6 (cnd x8 (ite2 (ltB 200 ad.length || ltB 816 b.length) (okOut (openOut o) (.tup [rt0.av (.vec true 65 []), .vec8 true [], .int .i64 1]) [])
     (ite2 (ltB b.length 16) (okOut (openOut o) (.tup [rt0.av (.vec true 65 []), .vec8 true [], .int .i64 4]) [])
     (ite2 (badS (kmS (chainN R.recv j)) z12 ad b) (okOut (openOut o) (.tup [rt0.av (.vec true 65 []), .vec8 true [], .int .i64 10]) [])
      (okOut (openOut o) (.tup [.agg [.b8 32 R.root, .b8 32 R.own, .b8 32 R.peer, .b8 32 R.send, .int .i64 R.out, .b8 32 (kcS (chainN R.recv j)), .int .i64 (wr .i64 (R.inn + (j : Int) + 1)), .int .i64 R.last, .bool R.can, .bool R.hear,
       .slv 0 65 (R.kept.length + j) (kcs (R.kept ++ skipN R.peer R.inn R.recv j))],
       .vec8 false (plainS (kmS (chainN R.recv j)) z12 b), .int .i64 0]) [.tail 65 (R.kept.length + j)])))))) := by
 have e1 : wr .i64 (subI (((R.kept.length + j : Nat)) : Int) 12) = ((R.kept.length + j : Nat) : Int) - 12 := by rw [subI_eq, wr_of (by omega) (by omega)]
 have e2 : wr .i64 (R.inn + (j : Int) + 1) = hn + 1 := by rw [wr_of (by omega) (by omega), hj]
 rw [e1, e2]
 have hsk := skip_eq hear h3 h4 hj
 unfold openTail at ho
 rw [if_neg (by omega), if_neg h2, hsk, if_neg (by simp)] at ho
 refine ite2_iff.2 ⟨fun h => ?_, fun h => ?_⟩
 ·rw [ltI_iff] at h
  obtain ⟨m, hm⟩ : ∃ m : Nat, (((R.kept.length + j : Nat)) : Int) - 12 = (m : Int) := ⟨R.kept.length + j - 12, by omega⟩
  rw [hm, (pos_slices (R.kept.length + j) m (by omega)).2.1]
  refine open_end ho h6 h8 fun hg => ?_
  have hm2 : R.kept.length + j - 12 = m := by omega
  rw [hm2] at hg
  refine open_vecr hg ?_ fun i hi => ?_
  ·show R.kept.length + j - Int.toNat (m : Int) = ((R.kept ++ skipN R.peer R.inn R.recv j).drop m).length
   rw [List.length_drop, List.length_append, length_skipN, Int.toNat_natCast]
  ·show kcs _ (Int.toNat (m : Int) + i) = _
   rw [Int.toNat_natCast]
   exact kcs_drop _ _ _
 ·have h' : ¬ (12 < R.kept.length + j) := fun h' => by rw [show ltI 0 ((((R.kept.length + j : Nat)) : Int) - 12) = true from (ltI_iff _ _).2 (by omega)] at h; cases h
  refine open_end ho h6 h8 fun hg => ?_
  rw [show R.kept.length + j - 12 = 0 by omega, List.drop_zero] at hg
  exact open_slv hg (by show _ = (R.kept ++ skipN R.peer R.inn R.recv j).length; rw [List.length_append, length_skipN]) fun _ _ => rfl
theorem not_lt_no {a b : Int} (h : (cond false true (Bool.not (ltI a b))) = false) : a < b := by
 have h : Bool.not (ltI a b) = false := h
 cases hb : ltI a b with
 | true => exact (ltI_iff _ _).1 hb
 | false => rw [hb] at h; cases h
theorem tail_w {o : Rt × List UInt8 × Int} {R : Rt} {hn : Int} {ad b : List UInt8} {x6 x8 : Bool} {Lp : Prop} (ho : o = openTail R hn ad b) (hear : R.hear = true) (h0 : 0 ≤ R.inn) (hi : R.inn ≤ 1073741824) (hm : 0 ≤ hn ∧ hn ≤ 1073741824) (h6 : x6 = true) (h8 : x8 = true)
  (hL : hn ≠ 1073741824 → R.inn < hn → hn - R.inn ≤ 8 → Lp) :
  ite2 (ltI hn R.inn) (okOut (openOut o) (.tup [rt0.av (.vec true 65 []), .vec8 true [], .int .i64 14]) [])
   (ite2 (hn == 1073741824) (okOut (openOut o) (.tup [rt0.av (.vec true 65 []), .vec8 true [], .int .i64 11]) [])
    (ite2 (cond false true (Bool.not (ltI R.inn hn)))
     (cnd x6 (cnd x8 (ite2 (ltB 200 ad.length || ltB 816 b.length) (okOut (openOut o) (.tup [rt0.av (.vec true 65 []), .vec8 true [], .int .i64 1]) [])
      (ite2 (ltB b.length 16) (okOut (openOut o) (.tup [rt0.av (.vec true 65 []), .vec8 true [], .int .i64 4]) [])
       (ite2 (badS (kmS R.recv) z12 ad b) (okOut (openOut o) (.tup [rt0.av (.vec true 65 []), .vec8 true [], .int .i64 10]) [])
        (okOut (openOut o) (.tup [.agg [.b8 32 R.root, .b8 32 R.own, .b8 32 R.peer, .b8 32 R.send, .int .i64 R.out, .b8 32 (kcS R.recv), .int .i64 (wr .i64 (R.inn + 1)), .int .i64 R.last, .bool R.can, .bool R.hear, .slv 0 65 R.kept.length (kcs R.kept)],
         .vec8 false (plainS (kmS R.recv) z12 b), .int .i64 0]) [.tail 65 R.kept.length]))))))
     (ite2 (ltI 8 (wr .i64 (subI hn R.inn))) (okOut (openOut o) (.tup [rt0.av (.vec true 65 []), .vec8 true [], .int .i64 6]) []) Lp))) := by
 unfold openTail at ho
 have e2 : wr .i64 (R.inn + 1) = R.inn + 1 := wr_of (by omega) (by omega)
 have e3 : wr .i64 (subI hn R.inn) = hn - R.inn := by rw [subI_eq, wr_of (by omega) (by omega)]
 rw [e2, e3]
 refine ite2_iff.2 ⟨fun h1 => open_err ?_, fun h1 => ite2_iff.2 ⟨fun h2 => open_err ?_, fun h2 => ite2_iff.2 ⟨fun h3 => ?_, fun h3 => ite2_iff.2 ⟨fun h4 => open_err ?_, fun h4 => ?_⟩⟩⟩⟩
 ·rw [ltI_iff] at h1; rw [ho, if_pos h1]
 all_goals have h1' : ¬ hn < R.inn := fun h => by rw [(ltI_iff _ _).2 h] at h1; cases h1
 ·rw [ho, if_neg h1', if_pos (eq_of_beq h2)]
 all_goals have h2' : ¬ hn = 1073741824 := ne_of_beq_false h2
 ·have h3' : ¬ R.inn < hn := fun h => by
   have h3 : Bool.not (ltI R.inn hn) = true := h3
   rw [(ltI_iff _ _).2 h] at h3; cases h3
  have hs : skipF R hn = (R, 0) := by unfold skipF; rw [if_pos (.inr (by omega))]
  rw [if_neg h1', if_neg h2', hs, if_neg (by simp)] at ho
  exact open_end ho h6 h8 fun hg => open_slv hg rfl fun _ _ => rfl
 all_goals have h3' : R.inn < hn := not_lt_no h3
 ·rw [ltI_iff] at h4
  have hs : skipF R hn = (R, 6) := by unfold skipF; rw [if_neg (by rw [hear]; simp; omega), if_pos h4]
  rw [ho, if_neg h1', if_neg h2', hs, if_pos (by simp)]
 ·have h4' : ¬ 8 < hn - R.inn := fun h => by rw [(ltI_iff _ _).2 h] at h4; cases h4
  exact hL h2' h3' (by omega)
theorem find_none {L : List Kp} {hk : List UInt8} {hn : Int} (h : ∀ j, j < L.length → ¬ ((L.getD j kp0).peer = hk ∧ (L.getD j kp0).n = hn)) : L.findIdx? (isKp hk hn) = none := by
 rw [List.findIdx?_eq_none_iff]
 intro x hx
 obtain ⟨i, hi, rfl⟩ := List.mem_iff_getElem.1 hx
 have := h i hi
 rw [List.getD_eq_getElem?_getD, List.getElem?_eq_getElem hi] at this
 unfold isKp
 cases hb : (L[i].peer == hk && L[i].n == hn) with
 | false => rfl
 | true =>
  rw [Bool.and_eq_true] at hb
  exact absurd ⟨eq_of_beq hb.1, eq_of_beq hb.2⟩ this
theorem find_some {L : List Kp} {hk : List UInt8} {hn : Int} {i : Nat} (hi : i < L.length) (hp : (L.getD i kp0).peer = hk ∧ (L.getD i kp0).n = hn) (h : ∀ j, j < i → ¬ ((L.getD j kp0).peer = hk ∧ (L.getD j kp0).n = hn)) : L.findIdx? (isKp hk hn) = some i := by
 rw [List.findIdx?_eq_some_iff_getElem]
 have e : ∀ j, (hj : j < L.length) → L.getD j kp0 = L[j] := fun j hj => by rw [List.getD_eq_getElem?_getD, List.getElem?_eq_getElem hj]; rfl
 refine ⟨hi, ?_, fun j hj => ?_⟩
 ·rw [e i hi] at hp
  unfold isKp
  rw [Bool.and_eq_true, beq_iff_eq, beq_iff_eq]
  exact hp
 ·have := h j hj
  rw [e j (by omega)] at this
  unfold isKp
  intro hb
  rw [Bool.and_eq_true] at hb
  exact this ⟨eq_of_beq hb.1, eq_of_beq hb.2⟩
theorem rows_erase {L : List Kp} {i : Nat} (hi : i < L.length) {x : Nat} (hx : x < i + (L.length - (i + 1))) :
  catF i (fun j => kcs L (0 + j)) (fun j => kcs L (i + 1 + j)) x = kcs (L.eraseIdx i) x := by
 unfold catF
 cases hb : ltB x i with
 | true =>
  have := ltB_iff.1 hb
  show kcs L (0 + x) = _
  unfold kcs
  rw [Nat.zero_add, List.getD_eq_getElem?_getD, List.getD_eq_getElem?_getD, List.getElem?_eraseIdx_of_lt this]
 | false =>
  have : ¬ x < i := fun h => by rw [ltB_iff.2 h] at hb; cases hb
  show kcs L (i + 1 + (x - i)) = _
  unfold kcs
  rw [List.getD_eq_getElem?_getD, List.getD_eq_getElem?_getD, List.getElem?_eraseIdx_of_ge (by omega), show i + 1 + (x - i) = x + 1 by omega]
theorem found_leaf {o : Rt × List UInt8 × Int} {r : Rt} {i : Nat} {ad b : List UInt8} {x6 x8 : Bool} (hi : i < r.kept.length) (hL : r.kept.length ≤ 12) (ho : o = openEnd (r.kept.getD i kp0).key { r with kept := r.kept.eraseIdx i } ad b) (h6 : x6 = true) (h8 : x8 = true) :
  cnd (true && true)
  (cnd ((true && (((i : Nat) : Int) == ((i : Nat) : Int))) && sliceOk none (some ((i : Nat) : Int)) r.kept.length)
  (cnd (true && sliceOk (some (wr .i64 (((i : Nat) : Int) + 1))) none r.kept.length)
  (cnd (leB (((hiN r.kept.length (some ((i : Nat) : Int)) - 0) + (hiN r.kept.length none - loN (some (wr .i64 (((i : Nat) : Int) + 1))))) * 72) 140737488355328)
  (cnd x6 (cnd x8 (ite2 (ltB 200 ad.length || ltB 816 b.length) (okOut (openOut o) (.tup [rt0.av (.vec true 65 []), .vec8 true [], .int .i64 1]) [])
   (ite2 (ltB b.length 16) (okOut (openOut o) (.tup [rt0.av (.vec true 65 []), .vec8 true [], .int .i64 4]) [])
    (ite2 (badS (r.kept.getD i kp0).key z12 ad b) (okOut (openOut o) (.tup [rt0.av (.vec true 65 []), .vec8 true [], .int .i64 10]) [])
     (okOut (openOut o) (.tup [.agg [.b8 32 r.root, .b8 32 r.own, .b8 32 r.peer, .b8 32 r.send, .int .i64 r.out, .b8 32 r.recv, .int .i64 r.inn, .int .i64 r.last, .bool r.can, .bool r.hear,
      .vecr false 65 ((hiN r.kept.length (some ((i : Nat) : Int)) - 0) + (hiN r.kept.length none - loN (some (wr .i64 (((i : Nat) : Int) + 1)))))
       (catF (hiN r.kept.length (some ((i : Nat) : Int)) - 0) (fun j => kcs r.kept (loN none + j)) (fun j => kcs r.kept (loN (some (wr .i64 (((i : Nat) : Int) + 1))) + j)))],
      .vec8 false (plainS (r.kept.getD i kp0).key z12 b), .int .i64 0]) []))))))))) := by
 have e1 : wr .i64 (((i : Nat) : Int) + 1) = ((i + 1 : Nat) : Int) := by rw [wr_of (by omega) (by omega)]; rfl
 rw [e1, beq_self_eq_true, (pos_slices r.kept.length i (by omega)).1, (pos_slices r.kept.length (i + 1) (by omega)).2.1]
 have e2 : hiN r.kept.length (some ((i : Nat) : Int)) - 0 = i := (pos_slices r.kept.length i (by omega)).2.2.1
 have e3 : loN (some ((i + 1 : Nat) : Int)) = i + 1 := Int.toNat_natCast _
 rw [e2, e3, show hiN r.kept.length none = r.kept.length from rfl, leB_of (by omega)]
 refine open_end ho h6 h8 fun hg => open_vecr (r := { r with kept := r.kept.eraseIdx i }) hg ?_ fun x hx => ?_
 ·show _ = (r.kept.eraseIdx i).length
  rw [List.length_eraseIdx_of_lt hi]; omega
 ·exact rows_erase hi hx
set_option maxHeartbeats 4000000
theorem skip0 (L : List Kp) (p : List UInt8) (i : Int) (c : List UInt8) (x : Nat) : leR (kcs L x) (kcs (L ++ skipN p i c 0) x) := leR.of_eq (kcs_ok _ x).ok (by rw [skipN, List.append_nil])
theorem skip1 (L : List Kp) (p : List UInt8) (i : Int) (c : List UInt8) (j : Nat) {x : Nat} (hx : x < L.length + j + 1) : leR (catF (L.length + j) (kcs (L ++ skipN p i c j)) (rowF [.agg [.b8 32 p, .int .i64 (i + (j : Int)), .b8 32 (kmS (chainN c j))]]) x) (kcs (L ++ skipN p i c (j + 1)) x) := leR.of_eq (kcs_ok _ x).ok (skip_rows L p i c j hx)
theorem int0 (i : Int) : AV.int .i64 i = AV.int .i64 (i + ((0 : Nat) : Int)) := congrArg _ (by omega)
theorem int1 {i : Int} {j : Nat} (h : 0 ≤ i) (h2 : i + (j : Int) ≤ 1073741824) : AV.int .i64 (wr .i64 (i + (j : Int) + 1)) = AV.int .i64 (i + ((j + 1 : Nat) : Int)) := congrArg _ (by rw [wr_of (by omega) (by omega)]; omega)
theorem ltI_ge {a b : Int} (h : ltI a b = false) : ¬ a < b := fun g => by rw [(ltI_iff _ _).2 g] at h; cases h
theorem ropen1_c (root own peer send : List UInt8) (out : Int) (recv : List UInt8) (inn last : Int) (can full : Bool) (L : List Kp) (sec : List UInt8) (fa : Bool) (a hk : List UInt8) (hl hn : Int) (fb : Bool) (b : List UInt8)
  (hL : L.length ≤ 1000000000) (hbl : b.length ≤ 1000000000) (hp : hk = peer ∨ hl ≤ inn) :
  HCall Tryd.E 11 [.agg [.b8 32 root, .b8 32 own, .b8 32 peer, .b8 32 send, .int .i64 out, .b8 32 recv, .int .i64 inn, .int .i64 last, .bool can, .bool true, .vecr full 65 L.length (kcs L)], .b8 32 sec, .vec8 fa a, .agg [.b8 32 hk, .int .i64 hl, .int .i64 hn], .vec8 fb b]
   (openOut (openRS ⟨root, own, peer, send, out, recv, inn, last, can, true, L⟩ sec a hk hl hn b)) := by
 refine HCall.of_lens rfl rfl fun hlen => ?_
 have hkl : hk.length = 32 := hlen (.agg [.b8 32 hk, .int .i64 hl, .int .i64 hn]) (by simp) (.b8 32 hk) (by simp)
 refine HCall.of_walkC (R := RF) (T := W2) (fun f r => openP L hk hn f r) 4 rfl rfl ?_
 rw [ropen1_eq]
 dsimp only [iK, b8K, z8K, smK, q1K, q2K, nK, rvK]
 rw [openRS_eq]
 generalize hO : openF ⟨root, own, peer, send, out, recv, inn, last, can, true, L⟩ sec a hk hl hn b = o
 unfold openF at hO
 rw [kpsOf_eq L rfl (fun _ _ => rfl)]
 rw [leB_of hL, isKps_kcs]
 refine ite2_iff.2 ⟨fun h1 => open_err ?_, fun h1 => ite2_iff.2 ⟨fun h2 => ite2_iff.2 ⟨fun h3 => open_err ?_, fun h3 => ?_⟩, fun h2 => open_err ?_⟩⟩
 ·rw [← hO, if_pos (by simpa using h1)]
 all_goals have h1' : chkS out inn last L = 0 := by simpa using h1
 ·rw [ltI_iff] at h3
  rw [← hO, if_neg (by simpa using h1'), if_neg (by rw [h2]; simp), if_pos (by omega)]
 ·have h3' : ¬ 160 < a.length := fun h => by rw [(ltI_iff 160 ((a.length : Nat) : Int)).2 (by omega)] at h3; cases h3
  rw [if_neg (by simpa using h1'), if_neg (by rw [h2]; simp), if_neg h3'] at hO
  obtain ⟨p1, p2, p3, p4, p5⟩ := rchk_of h1'
  have hb := inN_iff.1 p2
  rw [Bool.and_eq_true, inN_iff, inN_iff] at h2
  have h6 : (leB a.length 100000 && leB (headS hk hl hn).length 100000) = true := by
   rw [length_headS hkl, leB_of (by omega)]; rfl
  have h8 : leB b.length 1000000000 = true := leB_of hbl
  rw [leB_of (a := L.length * 72) (by omega)]
  refine ⟨⟨0, okK_iff.2 ⟨by omega, fun j h => by omega⟩, ?_⟩, fun i hi => ?_⟩
  ·(repeat' first | exact rfl | trivial | apply And.intro | (intro _ _; first | exact rfl | exact leR.refl rfl))
  obtain ⟨hin, hno⟩ := okK_iff.1 hi
  refine ite2_iff.2 ⟨fun hlt => ?_, fun hlt => ?_⟩
  ·rw [ltI_iff] at hlt
   have hlt : i < L.length := by omega
   rw [inB_of (by omega) (by omega), Int.toNat_natCast]
   have hw : wr .i64 ((i : Int) + 1) = ((i + 1 : Nat) : Int) := by rw [wr_of (by omega) (by omega)]; rfl
   refine ite2_iff.2 ⟨fun q1 => ite2_iff.2 ⟨fun q2 => ?_, fun q2 => ?_⟩, fun q1 => ?_⟩
   ·have hf := find_some hlt ⟨eq_of_beq q1, eq_of_beq q2⟩ hno
    rw [hf] at hO
    exact found_leaf (r := ⟨root, own, peer, send, out, recv, inn, last, can, true, L⟩) hlt p4 hO.symm h6 h8
   ·have hq : ¬ ((L.getD i kp0).peer = hk ∧ (L.getD i kp0).n = hn) := fun h => absurd h.2 (ne_of_beq_false q2)
    refine ⟨i + 1, ⟨Inv.up_lt (by omega), okK_iff.2 ⟨by omega, fun j h => ?_⟩⟩, ?_⟩
    ·rcases Nat.lt_or_ge j i with h' | h'
     ·exact hno j h'
     ·obtain rfl : j = i := by omega
      exact hq
    ·rw [hw]
     (repeat' first | exact rfl | trivial | apply And.intro | (intro _ _; first | exact rfl | exact leR.refl rfl))
   ·have hq : ¬ ((L.getD i kp0).peer = hk ∧ (L.getD i kp0).n = hn) := fun h => absurd h.1 (ne_of_beq_false q1)
    refine ⟨i + 1, ⟨Inv.up_lt (by omega), okK_iff.2 ⟨by omega, fun j h => ?_⟩⟩, ?_⟩
    ·rcases Nat.lt_or_ge j i with h' | h'
     ·exact hno j h'
     ·obtain rfl : j = i := by omega
      exact hq
    ·rw [hw]
     (repeat' first | exact rfl | trivial | apply And.intro | (intro _ _; first | exact rfl | exact leR.refl rfl))
  ·have e : i = L.length := by
    rw [← Bool.not_eq_true, ltI_iff] at hlt
    omega
   subst e
   have hf := find_none hno
   rw [hf] at hO
   have skipG : ∀ {R : Rt}, R.kept = L → True := fun _ => trivial
   refine ite2_iff.2 ⟨fun q1 => ?_, fun q1 => ?_⟩
   ·have q1 : Bool.not (hk == peer) = true := q1
    have hkp : hk ≠ peer := fun e => by rw [e, beq_self_eq_true] at q1; cases q1
    have hle : hl ≤ inn := hp.resolve_left hkp
    have hs : skipF ⟨root, own, peer, send, out, recv, inn, last, can, true, L⟩ hl = (⟨root, own, peer, send, out, recv, inn, last, can, true, L⟩, 0) := by unfold skipF; rw [if_pos (.inr hle)]
    dsimp only at hO
    rw [if_pos (.inr hkp), hs, if_neg (by simp)] at hO
    rw [ltI_no (by omega)]
    refine ite2_iff.2 ⟨fun _ => ite2_iff.2 ⟨fun t1 => open_err ?_, fun t1 => ite2_iff.2 ⟨fun t2 => open_err ?_, fun t2 => ?_⟩⟩, fun h => by cases h⟩
    ·rw [← hO, if_pos (by simpa using t1)]
    ·rw [← hO, if_neg (by simpa using t1), if_pos (by simpa using t2)]
    ·rw [if_neg (by simpa using t1), if_neg (by simpa using t2)] at hO
     refine tail_w (R := turnF ⟨root, own, peer, send, out, recv, inn, last, can, true, L⟩ sec hk) hO.symm rfl (Int.le_refl 0) (show (0 : Int) ≤ 1073741824 by decide) h2.2 h6 h8 fun c1 c2 c3 => ?_
     have c2 : (0 : Int) < hn := c2
     have c3 : hn - (0 : Int) ≤ 8 := c3
     refine ⟨⟨(0, turnF ⟨root, own, peer, send, out, recv, inn, last, can, true, L⟩ sec hk), okS_iff.2 ⟨rfl, show (0 : Int) + ((0 : Nat) : Int) ≤ hn by omega⟩, ?_⟩, fun w hw => ?_⟩
     ·(repeat' first | exact rfl | trivial | apply And.intro | (intro _ _; first | exact rfl | exact leR.refl rfl))
      all_goals first | exact int0 _ | exact fun x _ => skip0 _ _ _ _ x
     obtain ⟨j, R'⟩ := w
     obtain ⟨hR, hle⟩ := (okS_iff (R := turnF ⟨root, own, peer, send, out, recv, inn, last, can, true, L⟩ sec hk)).1 hw
     dsimp only at hR hle
     subst hR
     have hle : (0 : Int) + (j : Int) ≤ hn := hle
     refine ite2_iff.2 ⟨fun g => ?_, fun g => ?_⟩
     ·have g := (ltI_iff _ _).1 g
      have g : (0 : Int) + (j : Int) < hn := g
      refine cnd_iff.2 ⟨beq_self_eq_true _, cnd_iff.2 ⟨leB_of (show (L.length + j + 1) * 72 ≤ 140737488355328 by omega), ?_⟩⟩
      refine ⟨(j + 1, turnF ⟨root, own, peer, send, out, recv, inn, last, can, true, L⟩ sec hk), ⟨Inv.up_lt (by omega), okS_iff.2 ⟨rfl, show (0 : Int) + ((j + 1 : Nat) : Int) ≤ hn by omega⟩⟩, ?_⟩
      (repeat' first | exact rfl | trivial | apply And.intro | (intro _ _; first | exact rfl | exact leR.refl rfl))
      all_goals first | exact int1 (i := 0) (j := j) (Int.le_refl 0) (by omega) | exact fun x hx => skip1 _ _ _ _ j hx
     ·have g : ¬ (0 : Int) + (j : Int) < hn := ltI_ge g
      exact skip_leaf (R := turnF ⟨root, own, peer, send, out, recv, inn, last, can, true, L⟩ sec hk) hO.symm rfl c1 (Int.le_refl 0) h2.2.2 c2 c3 (show (0 : Int) + (j : Int) = hn by omega) p4 h6 h8
   ·have q1 : Bool.not (hk == peer) = false := q1
    have hkp : hk = peer := by
     cases hb : hk == peer with
     | true => exact eq_of_beq hb
     | false => rw [hb] at q1; cases q1
    dsimp only at hO
    rw [if_neg (by rintro (h | h) <;> first | cases h | exact h hkp)] at hO
    refine tail_w (R := ⟨root, own, peer, send, out, recv, inn, last, can, true, L⟩) hO.symm rfl hb.1 hb.2 h2.2 h6 h8 fun c1 c2 c3 => ?_
    have c2 : inn < hn := c2
    have c3 : hn - inn ≤ 8 := c3
    refine ⟨⟨(0, ⟨root, own, peer, send, out, recv, inn, last, can, true, L⟩), okS_iff.2 ⟨rfl, show inn + ((0 : Nat) : Int) ≤ hn by omega⟩, ?_⟩, fun w hw => ?_⟩
    ·(repeat' first | exact rfl | trivial | apply And.intro | (intro _ _; first | exact rfl | exact leR.refl rfl))
     all_goals first | exact int0 _ | exact fun x _ => skip0 _ _ _ _ x
    obtain ⟨j, R'⟩ := w
    obtain ⟨hR, hle⟩ := (okS_iff (R := ⟨root, own, peer, send, out, recv, inn, last, can, true, L⟩)).1 hw
    dsimp only at hR hle
    subst hR
    have hle : inn + (j : Int) ≤ hn := hle
    refine ite2_iff.2 ⟨fun g => ?_, fun g => ?_⟩
    ·have g := (ltI_iff _ _).1 g
     have g : inn + (j : Int) < hn := g
     refine cnd_iff.2 ⟨beq_self_eq_true _, cnd_iff.2 ⟨leB_of (show (L.length + j + 1) * 72 ≤ 140737488355328 by omega), ?_⟩⟩
     refine ⟨(j + 1, ⟨root, own, peer, send, out, recv, inn, last, can, true, L⟩), ⟨Inv.up_lt (by omega), okS_iff.2 ⟨rfl, show inn + ((j + 1 : Nat) : Int) ≤ hn by omega⟩⟩, ?_⟩
     (repeat' first | exact rfl | trivial | apply And.intro | (intro _ _; first | exact rfl | exact leR.refl rfl))
     all_goals first | exact int1 (i := inn) (j := j) hb.1 (by omega) | exact fun x hx => skip1 _ _ _ _ j hx
    ·have g : ¬ inn + (j : Int) < hn := ltI_ge g
     exact skip_leaf (R := ⟨root, own, peer, send, out, recv, inn, last, can, true, L⟩) hO.symm rfl c1 hb.1 h2.2.2 c2 c3 (show inn + (j : Int) = hn by omega) p4 h6 h8
 ·rw [← hO, if_neg (by simpa using h1'), if_pos h2]
theorem ropen0_c (root own peer send : List UInt8) (out : Int) (recv : List UInt8) (inn last : Int) (can full : Bool) (L : List Kp) (sec : List UInt8) (fa : Bool) (a hk : List UInt8) (hl hn : Int) (fb : Bool) (b : List UInt8)
  (hL : L.length ≤ 1000000000) (hbl : b.length ≤ 1000000000) :
  HCall Tryd.E 11 [.agg [.b8 32 root, .b8 32 own, .b8 32 peer, .b8 32 send, .int .i64 out, .b8 32 recv, .int .i64 inn, .int .i64 last, .bool can, .bool false, .vecr full 65 L.length (kcs L)], .b8 32 sec, .vec8 fa a, .agg [.b8 32 hk, .int .i64 hl, .int .i64 hn], .vec8 fb b]
   (openOut (openRS ⟨root, own, peer, send, out, recv, inn, last, can, false, L⟩ sec a hk hl hn b)) := by
 refine HCall.of_lens rfl rfl fun hlen => ?_
 have hkl : hk.length = 32 := hlen (.agg [.b8 32 hk, .int .i64 hl, .int .i64 hn]) (by simp) (.b8 32 hk) (by simp)
 refine HCall.of_walkC (R := RF) (T := W2) (fun f r => openP L hk hn f r) 4 rfl rfl ?_
 rw [ropen0_eq]
 dsimp only [iK, b8K, z8K, smK, q1K, q2K, nK, rvK]
 rw [openRS_eq]
 generalize hO : openF ⟨root, own, peer, send, out, recv, inn, last, can, false, L⟩ sec a hk hl hn b = o
 unfold openF at hO
 rw [kpsOf_eq L rfl (fun _ _ => rfl)]
 rw [leB_of hL, isKps_kcs]
 refine ite2_iff.2 ⟨fun h1 => open_err ?_, fun h1 => ite2_iff.2 ⟨fun h2 => ite2_iff.2 ⟨fun h3 => open_err ?_, fun h3 => ?_⟩, fun h2 => open_err ?_⟩⟩
 ·rw [← hO, if_pos (by simpa using h1)]
 all_goals have h1' : chkS out inn last L = 0 := by simpa using h1
 ·rw [ltI_iff] at h3
  rw [← hO, if_neg (by simpa using h1'), if_neg (by rw [h2]; simp), if_pos (by omega)]
 ·have h3' : ¬ 160 < a.length := fun h => by rw [(ltI_iff 160 ((a.length : Nat) : Int)).2 (by omega)] at h3; cases h3
  rw [if_neg (by simpa using h1'), if_neg (by rw [h2]; simp), if_neg h3'] at hO
  obtain ⟨p1, p2, p3, p4, p5⟩ := rchk_of h1'
  have hb := inN_iff.1 p2
  rw [Bool.and_eq_true, inN_iff, inN_iff] at h2
  have h6 : (leB a.length 100000 && leB (headS hk hl hn).length 100000) = true := by
   rw [length_headS hkl, leB_of (by omega)]; rfl
  have h8 : leB b.length 1000000000 = true := leB_of hbl
  rw [leB_of (a := L.length * 72) (by omega)]
  refine ⟨⟨0, okK_iff.2 ⟨by omega, fun j h => by omega⟩, ?_⟩, fun i hi => ?_⟩
  ·(repeat' first | exact rfl | trivial | apply And.intro | (intro _ _; first | exact rfl | exact leR.refl rfl))
  obtain ⟨hin, hno⟩ := okK_iff.1 hi
  refine ite2_iff.2 ⟨fun hlt => ?_, fun hlt => ?_⟩
  ·rw [ltI_iff] at hlt
   have hlt : i < L.length := by omega
   rw [inB_of (by omega) (by omega), Int.toNat_natCast]
   have hw : wr .i64 ((i : Int) + 1) = ((i + 1 : Nat) : Int) := by rw [wr_of (by omega) (by omega)]; rfl
   refine ite2_iff.2 ⟨fun q1 => ite2_iff.2 ⟨fun q2 => ?_, fun q2 => ?_⟩, fun q1 => ?_⟩
   ·have hf := find_some hlt ⟨eq_of_beq q1, eq_of_beq q2⟩ hno
    rw [hf] at hO
    exact found_leaf (r := ⟨root, own, peer, send, out, recv, inn, last, can, false, L⟩) hlt p4 hO.symm h6 h8
   ·have hq : ¬ ((L.getD i kp0).peer = hk ∧ (L.getD i kp0).n = hn) := fun h => absurd h.2 (ne_of_beq_false q2)
    refine ⟨i + 1, ⟨Inv.up_lt (by omega), okK_iff.2 ⟨by omega, fun j h => ?_⟩⟩, ?_⟩
    ·rcases Nat.lt_or_ge j i with h' | h'
     ·exact hno j h'
     ·obtain rfl : j = i := by omega
      exact hq
    ·rw [hw]
     (repeat' first | exact rfl | trivial | apply And.intro | (intro _ _; first | exact rfl | exact leR.refl rfl))
   ·have hq : ¬ ((L.getD i kp0).peer = hk ∧ (L.getD i kp0).n = hn) := fun h => absurd h.1 (ne_of_beq_false q1)
    refine ⟨i + 1, ⟨Inv.up_lt (by omega), okK_iff.2 ⟨by omega, fun j h => ?_⟩⟩, ?_⟩
    ·rcases Nat.lt_or_ge j i with h' | h'
     ·exact hno j h'
     ·obtain rfl : j = i := by omega
      exact hq
    ·rw [hw]
     (repeat' first | exact rfl | trivial | apply And.intro | (intro _ _; first | exact rfl | exact leR.refl rfl))
  ·have e : i = L.length := by
    rw [← Bool.not_eq_true, ltI_iff] at hlt
    omega
   subst e
   have hf := find_none hno
   rw [hf] at hO
   have hs : skipF ⟨root, own, peer, send, out, recv, inn, last, can, false, L⟩ hl = (⟨root, own, peer, send, out, recv, inn, last, can, false, L⟩, 0) := by unfold skipF; rw [if_pos (.inl rfl)]
   dsimp only at hO
   rw [if_pos (.inl rfl), hs, if_neg (by simp)] at hO
   refine ite2_iff.2 ⟨fun t1 => open_err ?_, fun t1 => ite2_iff.2 ⟨fun t2 => open_err ?_, fun t2 => ?_⟩⟩
   ·rw [← hO, if_pos (by simpa using t1)]
   ·rw [← hO, if_neg (by simpa using t1), if_pos (by simpa using t2)]
   ·rw [if_neg (by simpa using t1), if_neg (by simpa using t2)] at hO
    refine tail_w (R := turnF ⟨root, own, peer, send, out, recv, inn, last, can, false, L⟩ sec hk) hO.symm rfl (Int.le_refl 0) (show (0 : Int) ≤ 1073741824 by decide) h2.2 h6 h8 fun c1 c2 c3 => ?_
    have c2 : (0 : Int) < hn := c2
    have c3 : hn - (0 : Int) ≤ 8 := c3
    refine ⟨⟨(0, turnF ⟨root, own, peer, send, out, recv, inn, last, can, false, L⟩ sec hk), okS_iff.2 ⟨rfl, show (0 : Int) + ((0 : Nat) : Int) ≤ hn by omega⟩, ?_⟩, fun w hw => ?_⟩
    ·(repeat' first | exact rfl | trivial | apply And.intro | (intro _ _; first | exact rfl | exact leR.refl rfl))
     all_goals first | exact int0 _ | exact fun x _ => skip0 _ _ _ _ x
    obtain ⟨j, R'⟩ := w
    obtain ⟨hR, hle⟩ := (okS_iff (R := turnF ⟨root, own, peer, send, out, recv, inn, last, can, false, L⟩ sec hk)).1 hw
    dsimp only at hR hle
    subst hR
    have hle : (0 : Int) + (j : Int) ≤ hn := hle
    refine ite2_iff.2 ⟨fun g => ?_, fun g => ?_⟩
    ·have g := (ltI_iff _ _).1 g
     have g : (0 : Int) + (j : Int) < hn := g
     refine cnd_iff.2 ⟨beq_self_eq_true _, cnd_iff.2 ⟨leB_of (show (L.length + j + 1) * 72 ≤ 140737488355328 by omega), ?_⟩⟩
     refine ⟨(j + 1, turnF ⟨root, own, peer, send, out, recv, inn, last, can, false, L⟩ sec hk), ⟨Inv.up_lt (by omega), okS_iff.2 ⟨rfl, show (0 : Int) + ((j + 1 : Nat) : Int) ≤ hn by omega⟩⟩, ?_⟩
     (repeat' first | exact rfl | trivial | apply And.intro | (intro _ _; first | exact rfl | exact leR.refl rfl))
     all_goals first | exact int1 (i := 0) (j := j) (Int.le_refl 0) (by omega) | exact fun x hx => skip1 _ _ _ _ j hx
    ·have g : ¬ (0 : Int) + (j : Int) < hn := ltI_ge g
     exact skip_leaf (R := turnF ⟨root, own, peer, send, out, recv, inn, last, can, false, L⟩ sec hk) hO.symm rfl c1 (Int.le_refl 0) h2.2.2 c2 c3 (show (0 : Int) + (j : Int) = hn by omega) p4 h6 h8
 ·rw [← hO, if_neg (by simpa using h1'), if_pos h2]
noncomputable def firstO (root own peer : List UInt8) : Out := .alt (tellS own peer) (.ret (.tup [(firstR root own peer).rv, .int .i64 0]) []) (.ret (.tup [rt0.rv, .int .i64 12]) [])
theorem rfirst_c (root own peer : List UInt8) : HCall Tryd.E 15 [.b8 32 root, .b8 32 own, .b8 32 peer] (firstO root own peer) := by
 refine HCall.of_walkC (R := RT) (T := W1) (fun _ _ => .unroll 6) 4 rfl rfl ?_
 rw [rfirst_eq]
 dsimp only
 rw [leB_of (by rw [length_dhS]; omega)]
 unfold firstO
 refine ite2_iff.2 ⟨fun h => okOut.alt (fun g => by rw [g] at h; cases h) fun g => ?_, fun h => okOut.alt (fun g => ?_) fun g => by rw [g] at h; cases h⟩
 ·exact okOut.cold (v' := .tup [rt0.av (.vec true 65 []), .int .i64 12]) (u := []) rfl (leV_tup (leRV_cons (rv_le (nil_rows rfl)) (leRV_cons (leV.refl _) leRV_nil))) rfl ⟨rfl, rfl⟩
 ·rw [← rootS_eq, ← chainS_eq]
  exact okOut.cold (v' := .tup [(firstR root own peer).av (.vec true 65 []), .int .i64 0]) (u := []) rfl (leV_tup (leRV_cons (rv_le (r := firstR root own peer) (nil_rows rfl)) (leRV_cons (leV.refl _) leRV_nil))) rfl ⟨rfl, rfl⟩
theorem rsecond_c (root own : List UInt8) : HCall Tryd.E 17 [.b8 32 root, .b8 32 own] (.ret (secondR root own).rv []) := by
 refine HCall.of_walkC (R := RT) (T := W0) (fun _ _ => .unroll 6) 4 rfl rfl ?_
 rw [rsecond_eq]
 exact okOut.cold (v' := (secondR root own).av (.vec true 65 [])) (u := []) rfl (rv_le (r := secondR root own) (nil_rows rfl)) rfl ⟨rfl, rfl⟩
theorem rt_args {root own peer send : List UInt8} {out : Int} {recv : List UInt8} {inn last : Int} {can hear full : Bool} {n : Nat} {f : Nat → List AV} {L : List Kp} (hn : n = L.length) (hf : ∀ i, i < n → f i = kcs L i) :
  leV (.agg [.b8 32 root, .b8 32 own, .b8 32 peer, .b8 32 send, .int .i64 out, .b8 32 recv, .int .i64 inn, .int .i64 last, .bool can, .bool hear, .vecr full 65 n f]) (.agg [.b8 32 root, .b8 32 own, .b8 32 peer, .b8 32 send, .int .i64 out, .b8 32 recv, .int .i64 inn, .int .i64 last, .bool can, .bool hear, .vecr full 65 L.length (kcs L)]) := by
 subst hn
 exact leV_agg (leR_same rfl (leR_same rfl (leR_same rfl (leR_same rfl (leR_same rfl (leR_same rfl (leR_same rfl (leR_same rfl (leR_same rfl (leR_same rfl (leR_vecr (c := 0) id (fun x hx => leR.of_eq (kcs_ok L x).ok (hf x hx)) leR_end)))))))))))
noncomputable def W3 : Ctr Tryd.E := (((((Ctr.nil Tryd.E).add 15 (fun
  | [.b8 32 root, .b8 32 own, .b8 32 peer] => some (true, firstO root own peer)
  | _ => none) (by
   intro args pre out h hp
   split at h
   ·simp only [Option.some.injEq, Prod.mk.injEq] at h
    obtain ⟨rfl, rfl⟩ := h
    exact rfirst_c _ _ _
   ·simp at h)).add 17 (fun
  | [.b8 32 root, .b8 32 own] => some (true, .ret (secondR root own).rv [])
  | _ => none) (by
   intro args pre out h hp
   split at h
   ·simp only [Option.some.injEq, Prod.mk.injEq] at h
    obtain ⟨rfl, rfl⟩ := h
    exact rsecond_c _ _
   ·simp at h)).add 10 (fun
  | [.agg [.b8 32 root, .b8 32 own, .b8 32 peer, .b8 32 send, .int .i64 out, .b8 32 recv, .int .i64 inn, .int .i64 last, .bool can, .bool hear, .vecr _ 65 n f], .vec8 _ a, .vec8 _ b] =>
   some (leB n 1000000000 && isKps n f && leB a.length 1000000000, sealOut (sealRS ⟨root, own, peer, send, out, recv, inn, last, can, hear, kpsOf n f⟩ a b))
  | _ => none) (by
   intro args pre out h hp
   split at h
   ·simp only [Option.some.injEq, Prod.mk.injEq] at h
    obtain ⟨rfl, rfl⟩ := h
    rw [Bool.and_eq_true, Bool.and_eq_true] at hp
    rename_i root own peer send out recv inn last can hear full n f fa a fb b
    obtain ⟨L, rfl, hf⟩ := isKps_iff.1 hp.1.2
    rw [kpsOf_eq L rfl hf]
    exact HCall.args (rseal_c root own peer send out recv inn last can hear full L fa fb a b (leB_iff.1 hp.1.1) (leB_iff.1 hp.2)) rfl (leRV_cons (rt_args rfl hf) (leRV_cons (leV.refl _) (leRV_cons (leV.refl _) leRV_nil)))
   ·simp at h)).add 11 (fun
  | [.agg [.b8 32 root, .b8 32 own, .b8 32 peer, .b8 32 send, .int .i64 out, .b8 32 recv, .int .i64 inn, .int .i64 last, .bool can, .bool hear, .vecr _ 65 n f], .b8 32 sec, .vec8 _ a, .agg [.b8 32 hk, .int .i64 hl, .int .i64 hn], .vec8 _ b] =>
   some (leB n 1000000000 && isKps n f && leB b.length 1000000000 && (!hear || hk == peer || !ltI inn hl), openOut (openRS ⟨root, own, peer, send, out, recv, inn, last, can, hear, kpsOf n f⟩ sec a hk hl hn b))
  | _ => none) (by
   intro args pre out h hp
   split at h
   ·simp only [Option.some.injEq, Prod.mk.injEq] at h
    obtain ⟨rfl, rfl⟩ := h
    rw [Bool.and_eq_true, Bool.and_eq_true, Bool.and_eq_true] at hp
    rename_i root own peer send out recv inn last can hear full n f sec fa a hk hl hn fb b
    obtain ⟨L, rfl, hf⟩ := isKps_iff.1 hp.1.1.2
    rw [kpsOf_eq L rfl hf]
    cases hear with
    | false => exact HCall.args (ropen0_c root own peer send out recv inn last can full L sec fa a hk hl hn fb b (leB_iff.1 hp.1.1.1) (leB_iff.1 hp.1.2)) rfl (leRV_cons (rt_args rfl hf) (leRV_cons (leV.refl _) (leRV_cons (leV.refl _) (leRV_cons (leV.refl _) (leRV_cons (leV.refl _) leRV_nil)))))
    | true =>
     refine HCall.args (ropen1_c root own peer send out recv inn last can full L sec fa a hk hl hn fb b (leB_iff.1 hp.1.1.1) (leB_iff.1 hp.1.2) ?_) rfl (leRV_cons (rt_args rfl hf) (leRV_cons (leV.refl _) (leRV_cons (leV.refl _) (leRV_cons (leV.refl _) (leRV_cons (leV.refl _) leRV_nil)))))
     have h2 := hp.2
     rw [Bool.or_eq_true, Bool.or_eq_true] at h2
     rcases h2 with (h2 | h2) | h2
     ·cases h2
     ·exact .inl (eq_of_beq h2)
     ·refine .inr ?_
      rw [Bool.not_eq_true'] at h2
      have := ltI_ge h2
      omega
   ·simp at h)).or W2
end Go.Proofs.YtehaohfglolljaaDoor
namespace Go.Proofs.YtehaohfglolljaaDoor
open Go Go.V Go.Pin
set_option maxHeartbeats 0
set_option maxRecDepth 100000
theorem ukey_eq (n : Int) (K : AV → Heap → Prop) : walk Tryd.E (ROps.rows Tryd.E) (Ctr.nil Tryd.E).C (fun _ _ => .unroll 34) 5 14 [.int .i64 n] K = (
 let x0 : UInt32 := (UInt32.ofNat (Int.toNat (n % 4294967296)))
 let x1 : UInt8 := (UInt32.toUInt8 (shr32 x0 0))
 let x2 : UInt8 := (UInt32.toUInt8 (shr32 x0 8))
 let x3 : UInt8 := (UInt32.toUInt8 (shr32 x0 16))
 let x4 : UInt8 := (UInt32.toUInt8 (shr32 x0 24))
 K (AV.b8 32 (List.set (List.set (List.set (List.set (List.set (List.set (List.set (List.set (List.set (List.set (List.set (List.set (List.set (List.set (List.set (List.set (List.set (List.set (List.set (List.set (List.set (List.set (List.set (List.set (List.set (List.set (List.set (List.set (List.set (List.set (List.set (List.set [0, 0, 0, 0, 0, 0, 0, 0, 0, 0, 0, 0, 0, 0, 0, 0, 0, 0, 0, 0, 0, 0, 0, 0, 0, 0, 0, 0, 0, 0, 0, 0] 0 (x1 + 0)) 1 (x2 + 1)) 2 (x3 + 4)) 3 (x4 + 9)) 4 (x1 + 16)) 5 (x2 + 25)) 6 (x3 + 36)) 7 (x4 + 49)) 8 (x1 + 64)) 9 (x2 + 81)) 10 (x3 + 100)) 11 (x4 + 121)) 12 (x1 + 144)) 13 (x2 + 169)) 14 (x3 + 196)) 15 (x4 + 225)) 16 (x1 + 0)) 17 (x2 + 33)) 18 (x3 + 68)) 19 (x4 + 105)) 20 (x1 + 144)) 21 (x2 + 185)) 22 (x3 + 228)) 23 (x4 + 17)) 24 (x1 + 64)) 25 (x2 + 113)) 26 (x3 + 164)) 27 (x4 + 217)) 28 (x1 + 16)) 29 (x2 + 73)) 30 (x3 + 132)) 31 (x4 + 193))) []) := by kernel_rfl
theorem add0 (x : UInt8) : x + 0 = x := UInt8.add_zero x
theorem ukey_c (n : Int) : HCall Tryd.E 14 [.int .i64 n] (.ret (.b8 32 (keyS n)) []) := by
 refine HCall.of_walk (R := ROps.rows Tryd.E) (T := Ctr.nil Tryd.E) (fun _ _ => .unroll 34) 5 rfl rfl ?_
 rw [ukey_eq, keyS_eq]
 dsimp only
 rw [add0]
 refine ⟨?_, rfl⟩
 kernel_rfl
noncomputable def Ukey : Ctr Tryd.E := (Ctr.nil Tryd.E).add 14 (fun
  | [.int .i64 n] => some (true, .ret (.b8 32 (keyS n)) [])
  | _ => none) (by
   intro args pre out h hp
   split at h
   ·simp only [Option.some.injEq, Prod.mk.injEq] at h
    obtain ⟨rfl, rfl⟩ := h
    exact ukey_c _
   ·simp at h)
end Go.Proofs.YtehaohfglolljaaDoor
namespace Go.Proofs.YtehaohfglolljaaDoor
open Go Go.V Go.Fld Go.Pol Go.Cha Go.Bla Go.Rat Go.Pin
noncomputable def W4a : Ctr Tryd.E := Ctr.or (Ctr.or (Ctr.or Ukey Ucut) (Ctr.or Usome Upicked)) (Ctr.or W3 M1)
set_option maxHeartbeats 0
set_option maxRecDepth 100000
theorem rfresh_eq (n : Int) (K : AV → Heap → Prop) : walk Tryd.E RF W4a.C (fun _ _ => .unroll 6) 4 12 [.int .i64 n] K = (
 K (AV.b8 32 (List.set (Pin.keyS n) 5 ((List.getD (Pin.keyS n) 5 0) ^^^ 85))) []) := by kernel_rfl
theorem rtalkers_eq (root a b : Int) (K : AV → Heap → Prop) : walk Tryd.E RF W4a.C (fun _ _ => .unroll 6) 4 6 [.int .i64 root, .int .i64 a, .int .i64 b] K = (
 let x0 : List UInt8 := (pubS (Pin.keyS b))
 let x1 : List UInt8 := (Pin.keyS root)
 ite2 (tellS (Pin.keyS a) x0)
 (K (AV.tup [AV.agg [AV.b8 32 (Rat.Rt.root (firstR x1 (Pin.keyS a) x0)), AV.b8 32 (Rat.Rt.own (firstR x1 (Pin.keyS a) x0)), AV.b8 32 (Rat.Rt.peer (firstR x1 (Pin.keyS a) x0)), AV.b8 32 (Rat.Rt.send (firstR x1 (Pin.keyS a) x0)), AV.int .i64 (Rat.Rt.out (firstR x1 (Pin.keyS a) x0)), AV.b8 32 (Rat.Rt.recv (firstR x1 (Pin.keyS a) x0)), AV.int .i64 (Rat.Rt.inn (firstR x1 (Pin.keyS a) x0)), AV.int .i64 (Rat.Rt.last (firstR x1 (Pin.keyS a) x0)), AV.bool true, AV.bool false, AV.vecr false 65 0 (Rat.kcs (Rat.Rt.kept (firstR x1 (Pin.keyS a) x0)))], AV.agg [AV.b8 32 (Rat.Rt.root (secondR x1 (Pin.keyS b))), AV.b8 32 (Rat.Rt.own (secondR x1 (Pin.keyS b))), AV.b8 32 (Rat.Rt.peer (secondR x1 (Pin.keyS b))), AV.b8 32 (Rat.Rt.send (secondR x1 (Pin.keyS b))), AV.int .i64 (Rat.Rt.out (secondR x1 (Pin.keyS b))), AV.b8 32 (Rat.Rt.recv (secondR x1 (Pin.keyS b))), AV.int .i64 (Rat.Rt.inn (secondR x1 (Pin.keyS b))), AV.int .i64 (Rat.Rt.last (secondR x1 (Pin.keyS b))), AV.bool false, AV.bool false, AV.vecr false 65 0 (Rat.kcs (Rat.Rt.kept (secondR x1 (Pin.keyS b))))], AV.bool true]) [])
 (K (AV.tup [AV.agg [AV.b8 32 (Rat.Rt.root rt0), AV.b8 32 (Rat.Rt.own rt0), AV.b8 32 (Rat.Rt.peer rt0), AV.b8 32 (Rat.Rt.send rt0), AV.int .i64 0, AV.b8 32 (Rat.Rt.recv rt0), AV.int .i64 0, AV.int .i64 0, AV.bool false, AV.bool false, AV.vecr false 65 0 (Rat.kcs (Rat.Rt.kept rt0))], AV.agg [AV.b8 32 (Rat.Rt.root (secondR x1 (Pin.keyS b))), AV.b8 32 (Rat.Rt.own (secondR x1 (Pin.keyS b))), AV.b8 32 (Rat.Rt.peer (secondR x1 (Pin.keyS b))), AV.b8 32 (Rat.Rt.send (secondR x1 (Pin.keyS b))), AV.int .i64 (Rat.Rt.out (secondR x1 (Pin.keyS b))), AV.b8 32 (Rat.Rt.recv (secondR x1 (Pin.keyS b))), AV.int .i64 (Rat.Rt.inn (secondR x1 (Pin.keyS b))), AV.int .i64 (Rat.Rt.last (secondR x1 (Pin.keyS b))), AV.bool false, AV.bool false, AV.vecr false 65 0 (Rat.kcs (Rat.Rt.kept (secondR x1 (Pin.keyS b))))], AV.bool false]) [])) := by kernel_rfl
end Go.Proofs.YtehaohfglolljaaDoor
namespace Go.Proofs.YtehaohfglolljaaDoor
open Go Go.V Go.Fld Go.Pol Go.Cha Go.Bla Go.Rat
set_option maxRecDepth 100000
structure NumOk (c : Int) (r : Rt) : Prop where
 c0 : 0 ≤ c
 out0 : 0 ≤ r.out
 out1 : r.out ≤ c
 inn0 : 0 ≤ r.inn
 inn1 : r.inn ≤ c
 last0 : 0 ≤ r.last
 last1 : r.last ≤ c
theorem NumOk.mono {c d : Int} {r : Rt} (h : NumOk c r) (hd : c ≤ d) : NumOk d r := ⟨Int.le_trans h.c0 hd, h.out0, Int.le_trans h.out1 hd, h.inn0, Int.le_trans h.inn1 hd, h.last0, Int.le_trans h.last1 hd⟩
theorem chk_nil {c : Int} {r : Rt} (h : NumOk c r) (hc : c < 1073741824) (hk : r.kept = []) : chkS r.out r.inn r.last r.kept = 0 := by
 obtain ⟨h0, h1, h2, h3, h4, h5, h6⟩ := h
 refine chkS_ok ⟨inN_iff.2 ⟨h1, by omega⟩, inN_iff.2 ⟨h3, by omega⟩, inN_iff.2 ⟨h5, by omega⟩, by rw [hk]; decide, fun i hi => by rw [hk] at hi; exact absurd hi (by simp)⟩
theorem seal_good {r : Rt} {a b : List UInt8} (hc : chkS r.out r.inn r.last r.kept = 0) (can : r.can = true) (hb : b.length ≤ 400) (ha : a.length ≤ 160) (ho : r.out ≠ 1073741824) :
  sealRS r a b = ({ r with send := kcS r.send, out := r.out + 1 }, (pubS r.own, r.last, r.out), sealS (kmS r.send) z12 (a ++ headS (pubS r.own) r.last r.out) b, 0) := by
 rw [sealRS_eq]
 unfold sealF'
 rw [if_neg (by rw [hc]; simp), if_neg (by rw [can]; simp), if_neg (by omega), if_neg ho]
theorem end_good {key : List UInt8} {r : Rt} {ad t : List UInt8} (ha : ad.length ≤ 200) (ht : t.length ≤ 400) : openEnd key r ad (sealS key z12 ad t) = (r, t, 0) := by
 unfold openEnd
 have hl : (sealS key z12 ad t).length = t.length + 16 := length_sealS _ _ _ _
 rw [hl, if_neg (by
  rw [Bool.or_eq_true, ltB_iff, ltB_iff]; omega), if_neg (by rw [ltB_iff]; omega), if_neg (by rw [bad_seal]; simp), plain_seal]
theorem ad_le {a k : List UInt8} {hl hn : Int} (ha : a.length ≤ 160) (hk : k.length = 32) : (a ++ headS k hl hn).length ≤ 200 := by
 rw [List.length_append, length_headS hk]; omega
theorem skip_no {r : Rt} {to : Int} (h : r.hear = false ∨ to ≤ r.inn) : skipF r to = (r, 0) := by unfold skipF; rw [if_pos h]
theorem tail_good {r : Rt} {hn : Int} {key ad t : List UInt8} (hi : hn = r.inn) (h2 : hn ≠ 1073741824) (ha : ad.length ≤ 200) (ht : t.length ≤ 400) (hk : key = kmS r.recv) :
  openTail r hn ad (sealS key z12 ad t) = ({ r with recv := kcS r.recv, inn := r.inn + 1 }, t, 0) := by
 unfold openTail
 rw [if_neg (by omega), if_neg h2, skip_no (.inr (by omega)), if_neg (by simp)]
 subst hk
 exact end_good ha ht
theorem in_both {a b : Int} (h1 : 0 ≤ a) (h2 : a ≤ 1073741824) (h3 : 0 ≤ b) (h4 : b ≤ 1073741824) : ¬ (inN a && inN b) = false := by
 rw [inN_iff.2 ⟨h1, h2⟩, inN_iff.2 ⟨h3, h4⟩]; simp
structure LF (c : Int) (olds : List UInt8 → Prop) (l f : Rt) : Prop where
 can : l.can = true
 out : l.out = 0
 root : l.root = rootS f.root f.own (pubS l.own)
 send : l.send = chainS f.root f.own (pubS l.own)
 lk : l.kept = []
 fk : f.kept = []
 ln : NumOk c l
 fn : NumOk c f
 hear : l.hear = f.can
 back : f.can = true → l.peer = pubS f.own ∧ l.recv = f.send ∧ l.inn = f.out
 peer : f.hear = true → f.peer ≠ pubS l.own ∧ l.last = f.inn
 lo : l.own.length = 32
 fo : f.own.length = 32
 ol : olds l.own
 of : olds f.own
theorem LF.mono {c d : Int} {o o' : List UInt8 → Prop} {l f : Rt} (h : LF c o l f) (hd : c ≤ d) (ho : ∀ k, o k → o' k) : LF d o' l f :=
 ⟨h.can, h.out, h.root, h.send, h.lk, h.fk, h.ln.mono hd, h.fn.mono hd, h.hear, h.back, h.peer, h.lo, h.fo, ho _ h.ol, ho _ h.of⟩
theorem chain_comm {root a b : List UInt8} : chainS root a (pubS b) = chainS root b (pubS a) := by rw [chainS_eq, chainS_eq, dh_comm]
end Go.Proofs.YtehaohfglolljaaDoor
namespace Go.Proofs.YtehaohfglolljaaDoor
open Go Go.V Go.Fld Go.Pol Go.Cha Go.Bla Go.Rat Go.Pin
set_option maxRecDepth 100000
noncomputable def freshS : Int → List UInt8 := (sealed fun n => (keyS n).set 5 ((keyS n).getD 5 0 ^^^ 85)).val
theorem freshS_eq (n : Int) : freshS n = (keyS n).set 5 ((keyS n).getD 5 0 ^^^ 85) := by rw [freshS, (sealed fun n => (keyS n).set 5 ((keyS n).getD 5 0 ^^^ 85)).property]
theorem rfresh_c (n : Int) : HCall Tryd.E 12 [.int .i64 n] (.ret (.b8 32 (freshS n)) []) := by
 refine HCall.of_walkC (R := RF) (T := W4a) (fun _ _ => .unroll 6) 4 rfl rfl ?_
 rw [rfresh_eq, freshS_eq]
 exact okOut.here ⟨rfl, rfl⟩
noncomputable def xR (root a b : Int) : Rt := firstR (keyS root) (keyS a) (pubS (keyS b))
noncomputable def yR (root b : Int) : Rt := secondR (keyS root) (keyS b)
theorem rtalkers_c (root a b : Int) : HCall Tryd.E 6 [.int .i64 root, .int .i64 a, .int .i64 b] (.ret (.tup [(xR root a b).rv, (yR root b).rv, .bool true]) []) := by
 refine HCall.of_walkC (R := RF) (T := W4a) (fun _ _ => .unroll 6) 4 rfl rfl ?_
 rw [rtalkers_eq]
 dsimp only
 rw [dh_tells (length_keyS a) (length_keyS b)]
 exact okOut.here ⟨rfl, rfl⟩
noncomputable def W4 : Ctr Tryd.E := (((Ctr.nil Tryd.E).add 12 (fun
  | [.int .i64 n] => some (true, .ret (.b8 32 (freshS n)) [])
  | _ => none) (by
   intro args pre out h hp
   split at h
   ·simp only [Option.some.injEq, Prod.mk.injEq] at h
    obtain ⟨rfl, rfl⟩ := h
    exact rfresh_c _
   ·simp at h)).add 6 (fun
  | [.int .i64 root, .int .i64 a, .int .i64 b] => some (true, .ret (.tup [(xR root a b).rv, (yR root b).rv, .bool true]) [])
  | _ => none) (by
   intro args pre out h hp
   split at h
   ·simp only [Option.some.injEq, Prod.mk.injEq] at h
    obtain ⟨rfl, rfl⟩ := h
    exact rtalkers_c _ _ _
   ·simp at h)).or W4a
def Rt.cells (r : Rt) : List AV := [.b8 32 r.root, .b8 32 r.own, .b8 32 r.peer, .b8 32 r.send, .int .i64 r.out, .b8 32 r.recv, .int .i64 r.inn, .int .i64 r.last, .bool r.can, .bool r.hear, .vecr false 65 r.kept.length (kcs r.kept)]
theorem kps_rv (r : Rt) : kpsOf r.kept.length (kcs r.kept) = r.kept := kpsOf_eq r.kept rfl fun _ _ => rfl
noncomputable def sK (r : Rt) (a b : List UInt8) : Rt × (List UInt8 × Int × Int) × List UInt8 × Int := sealRS ⟨r.root, r.own, r.peer, r.send, r.out, r.recv, r.inn, r.last, r.can, r.hear, kpsOf r.kept.length (kcs r.kept)⟩ a b
theorem sK_eq (r : Rt) (a b : List UInt8) : sK r a b = sealRS r a b := by unfold sK; rw [kps_rv]
noncomputable def oK (r : Rt) (sec a hk : List UInt8) (hl hn : Int) (b : List UInt8) : Rt × List UInt8 × Int := openRS ⟨r.root, r.own, r.peer, r.send, r.out, r.recv, r.inn, r.last, r.can, r.hear, kpsOf r.kept.length (kcs r.kept)⟩ sec a hk hl hn b
theorem oK_eq (r : Rt) (sec a hk : List UInt8) (hl hn : Int) (b : List UInt8) : oK r sec a hk hl hn b = openRS r sec a hk hl hn b := by unfold oK; rw [kps_rv]
noncomputable def sO (r : Rt) (sec a : List UInt8) (x : Rt × (List UInt8 × Int × Int) × List UInt8 × Int) : Rt × List UInt8 × Int := oK r sec a x.2.1.1 x.2.1.2.1 x.2.1.2.2 x.2.2.1
def oldsI (i : Nat) (k : List UInt8) : Prop := k.length = 32 ∧ ((∃ n, k = keyS n) ∨ ∃ j : Nat, j < i ∧ k = freshS j)
def okB (g : List AV) (x : Nat × Rt × Rt) : Prop := match g with
 | [.int _ n] => ((x.1 : Int) ≤ n ∧ n ≤ 8) ∧ x.2.1.can = true ∧ (LF (3 * (x.1 : Int)) (oldsI x.1) x.2.1 x.2.2 ∨ LF (3 * (x.1 : Int)) (oldsI x.1) x.2.2 x.2.1)
 | _ => False
noncomputable def xI (root a b : Int) (i : Nat) : Rt := { xR root a b with send := chainN (xR root a b).send i, out := (i : Int) }
noncomputable def msgF (root a b : Int) (t : List UInt8) (i : Nat) : List UInt8 := sealS (kmS (chainN (xR root a b).send i)) z12 ([] ++ headS (pubS (keyS a)) 0 (i : Int)) t
noncomputable def msgS : Int → Int → Int → List UInt8 → Nat → List UInt8 := (sealed msgF).val
theorem msgS_eq (root a b : Int) (t : List UInt8) (i : Nat) : msgS root a b t i = sealS (kmS (chainN (xR root a b).send i)) z12 ([] ++ headS (pubS (keyS a)) 0 (i : Int)) t := by rw [msgS, (sealed msgF).property, msgF]
noncomputable def keptI (root a b : Int) (left : List Nat) (m : Nat) : List Kp := (left.filter (fun j => decide (j < m))).map fun (j : Nat) => ⟨pubS (keyS a), (j : Int), kmS (chainN (xR root a b).send j)⟩
noncomputable def yF (root a b : Int) (left : List Nat) (m : Nat) : Rt := if m = 0 then yR root b else
 ⟨rootS (rootS (keyS root) (keyS b) (pubS (keyS a))) (keyS 7) (pubS (keyS a)), keyS 7, pubS (keyS a), chainS (rootS (keyS root) (keyS b) (pubS (keyS a))) (keyS 7) (pubS (keyS a)), 0, chainN (xR root a b).send m, (m : Int), 0, true, true, keptI root a b left m⟩
noncomputable def yI : Int → Int → Int → List Nat → Nat → Rt := (sealed yF).val
theorem yI_eq (root a b : Int) (left : List Nat) (m : Nat) : yI root a b left m = yF root a b left m := by rw [yI, (sealed yF).property]
noncomputable def lastK (a : Int) (i : Nat) : List UInt8 := if i = 0 then z32 else pubS (keyS a)
def lastN (i : Nat) : Int := if i = 0 then 0 else (i : Int) - 1
noncomputable def lastB2 (root a b : Int) (i : Nat) : List UInt8 := if i = 0 then [] else msgS root a b [UInt8.ofNat (i - 1)] (i - 1)
noncomputable def skipsL (root a b : Int) (f _r : Nat) : LPlan := bif f == 5 then
 .mv [9, 10, 11, 12, 13, 33] [33] Nat (fun g i => Inv.upTo g i) Inv.up (fun _ => []) (fun _ i => [(34, .int .i64 ((i : Nat) : Int))])
  (fun _ i => [(0, .blk (Rt.cells (xI root a b i)) []), (1, .blk (Rt.cells (yI root a b [] (min i 1))) []), (2, .blk [.b8 32 (lastK a i), .int .i64 0, .int .i64 (lastN i), .vec8 false (lastB2 root a b i), .str []] [])]) (fun _ => []) else .unroll 6
set_option maxHeartbeats 0
theorem tskips_eq (root a b n : Int) (K : AV → Heap → Prop) : walk Tryd.E RF W4.C (skipsL root a b) 4 5 [.int .i64 root, .int .i64 a, .int .i64 b, .int .i64 n] K = (
 let x0 : Int := (wr .i64 ((n % 14) + 2))
(∃ w0 : Nat, (Inv.upTo [iK x0] w0) ∧ (smK (AV.bool true) (smK (iK (n % 14)) (smK (iK x0) ((iK 0 = iK (nK w0)) ∧ ((b8K (Rt.root (xR root a b)) = b8K (Rt.root (xI root a b w0))) ∧ ((b8K (Rt.own (xR root a b)) = b8K (Rt.own (xI root a b w0))) ∧ ((b8K (Rt.peer (xR root a b)) = b8K (Rt.peer (xI root a b w0))) ∧ ((b8K (Rt.send (xR root a b)) = b8K (Rt.send (xI root a b w0))) ∧ ((iK (Rt.out (xR root a b)) = iK (Rt.out (xI root a b w0))) ∧ ((b8K (Rt.recv (xR root a b)) = b8K (Rt.recv (xI root a b w0))) ∧ ((iK (Rt.inn (xR root a b)) = iK (Rt.inn (xI root a b w0))) ∧ ((iK (Rt.last (xR root a b)) = iK (Rt.last (xI root a b w0))) ∧ (smK (AV.bool true) (smK (AV.bool false) (smK (0) ((∀ w1 : Nat, (w1 < (List.length (Rt.kept (xI root a b w0))) → leR [b8K (Kp.peer (List.getD (Rt.kept (xR root a b)) w1 kp0)), iK (Kp.n (List.getD (Rt.kept (xR root a b)) w1 kp0)), b8K (Kp.key (List.getD (Rt.kept (xR root a b)) w1 kp0))] [b8K (Kp.peer (List.getD (Rt.kept (xI root a b w0)) w1 kp0)), iK (Kp.n (List.getD (Rt.kept (xI root a b w0)) w1 kp0)), b8K (Kp.key (List.getD (Rt.kept (xI root a b w0)) w1 kp0))])) ∧ ((b8K (Rt.root (yR root b)) = b8K (Rt.root (yI root a b [] (Min.min w0 1)))) ∧ ((b8K (Rt.own (yR root b)) = b8K (Rt.own (yI root a b [] (Min.min w0 1)))) ∧ ((b8K (Rt.peer (yR root b)) = b8K (Rt.peer (yI root a b [] (Min.min w0 1)))) ∧ ((b8K (Rt.send (yR root b)) = b8K (Rt.send (yI root a b [] (Min.min w0 1)))) ∧ ((iK (Rt.out (yR root b)) = iK (Rt.out (yI root a b [] (Min.min w0 1)))) ∧ ((b8K (Rt.recv (yR root b)) = b8K (Rt.recv (yI root a b [] (Min.min w0 1)))) ∧ ((iK (Rt.inn (yR root b)) = iK (Rt.inn (yI root a b [] (Min.min w0 1)))) ∧ ((iK (Rt.last (yR root b)) = iK (Rt.last (yI root a b [] (Min.min w0 1)))) ∧ ((AV.bool false = AV.bool (Rt.can (yI root a b [] (Min.min w0 1)))) ∧ ((AV.bool false = AV.bool (Rt.hear (yI root a b [] (Min.min w0 1)))) ∧ ((0 = List.length (Rt.kept (yI root a b [] (Min.min w0 1)))) ∧ ((∀ w2 : Nat, (w2 < (List.length (Rt.kept (yI root a b [] (Min.min w0 1)))) → leR [b8K (Kp.peer (List.getD (Rt.kept (yR root b)) w2 kp0)), iK (Kp.n (List.getD (Rt.kept (yR root b)) w2 kp0)), b8K (Kp.key (List.getD (Rt.kept (yR root b)) w2 kp0))] [b8K (Kp.peer (List.getD (Rt.kept (yI root a b [] (Min.min w0 1))) w2 kp0)), iK (Kp.n (List.getD (Rt.kept (yI root a b [] (Min.min w0 1))) w2 kp0)), b8K (Kp.key (List.getD (Rt.kept (yI root a b [] (Min.min w0 1))) w2 kp0))])) ∧ ((z8K = b8K (lastK a w0)) ∧ (smK (iK 0) ((iK 0 = iK (lastN w0)) ∧ (([] = lastB2 root a b w0) ∧ ((AV.str [] = AV.str []) ∧ True)))))))))))))))))))))))))))))))))) ∧ (∀ w3 : Nat, (Inv.upTo [iK x0] w3 → ite2 (ltI (nK w3) x0)
 (cnd ((true && (isKps 0 (kcs (Rt.kept (xI root a b w3))))) && true)
 (ite2 ((Prod.snd (Prod.snd (Prod.snd (sK (xI root a b w3) [] (List.take 1 (List.drop 0 [UInt8.ofNat (Int.toNat ((nK w3) % 256))])))))) != 0)
 (K (AV.bool false) [])
 (ite2 ((nK w3) == 0)
 (cnd ((((leB (List.length (Rt.kept (yI root a b [] (Min.min w3 1)))) 1000000000) && (isKps (List.length (Rt.kept (yI root a b [] (Min.min w3 1)))) (kcs (Rt.kept (yI root a b [] (Min.min w3 1)))))) && (leB (List.length (Prod.fst (Prod.snd (Prod.snd (sK (xI root a b w3) [] (List.take 1 (List.drop 0 [UInt8.ofNat (Int.toNat ((nK w3) % 256))]))))))) 1000000000)) && (((Bool.not (Rt.hear (yI root a b [] (Min.min w3 1)))) || ((Prod.fst (Prod.fst (Prod.snd (sK (xI root a b w3) [] (List.take 1 (List.drop 0 [UInt8.ofNat (Int.toNat ((nK w3) % 256))])))))) == (Rt.peer (yI root a b [] (Min.min w3 1))))) || (Bool.not (ltI (Rt.inn (yI root a b [] (Min.min w3 1))) (Prod.fst (Prod.snd (Prod.fst (Prod.snd (sK (xI root a b w3) [] (List.take 1 (List.drop 0 [UInt8.ofNat (Int.toNat ((nK w3) % 256))])))))))))))
 (ite2 ((Prod.snd (Prod.snd (sO (yI root a b [] (Min.min w3 1)) (keyS 7) [] (sK (xI root a b w3) [] (List.take 1 (List.drop 0 [UInt8.ofNat (Int.toNat ((nK w3) % 256))])))))) != 0)
 (K (AV.bool false) [])
 ((∃ w4 : Nat, (((Inv.up w4) < (Inv.up w3)) ∧ (Inv.upTo [iK x0] w4)) ∧ (smK (AV.bool true) (smK (iK (n % 14)) (smK (iK x0) ((iK (wr .i64 ((nK w3) + 1)) = iK (nK w4)) ∧ ((b8K (Rt.root (Prod.fst (sK (xI root a b w3) [] (List.take 1 (List.drop 0 [UInt8.ofNat (Int.toNat ((nK w3) % 256))]))))) = b8K (Rt.root (xI root a b w4))) ∧ ((b8K (Rt.own (Prod.fst (sK (xI root a b w3) [] (List.take 1 (List.drop 0 [UInt8.ofNat (Int.toNat ((nK w3) % 256))]))))) = b8K (Rt.own (xI root a b w4))) ∧ ((b8K (Rt.peer (Prod.fst (sK (xI root a b w3) [] (List.take 1 (List.drop 0 [UInt8.ofNat (Int.toNat ((nK w3) % 256))]))))) = b8K (Rt.peer (xI root a b w4))) ∧ ((b8K (Rt.send (Prod.fst (sK (xI root a b w3) [] (List.take 1 (List.drop 0 [UInt8.ofNat (Int.toNat ((nK w3) % 256))]))))) = b8K (Rt.send (xI root a b w4))) ∧ ((iK (Rt.out (Prod.fst (sK (xI root a b w3) [] (List.take 1 (List.drop 0 [UInt8.ofNat (Int.toNat ((nK w3) % 256))]))))) = iK (Rt.out (xI root a b w4))) ∧ ((b8K (Rt.recv (Prod.fst (sK (xI root a b w3) [] (List.take 1 (List.drop 0 [UInt8.ofNat (Int.toNat ((nK w3) % 256))]))))) = b8K (Rt.recv (xI root a b w4))) ∧ ((iK (Rt.inn (Prod.fst (sK (xI root a b w3) [] (List.take 1 (List.drop 0 [UInt8.ofNat (Int.toNat ((nK w3) % 256))]))))) = iK (Rt.inn (xI root a b w4))) ∧ ((iK (Rt.last (Prod.fst (sK (xI root a b w3) [] (List.take 1 (List.drop 0 [UInt8.ofNat (Int.toNat ((nK w3) % 256))]))))) = iK (Rt.last (xI root a b w4))) ∧ ((AV.bool (Rt.can (Prod.fst (sK (xI root a b w3) [] (List.take 1 (List.drop 0 [UInt8.ofNat (Int.toNat ((nK w3) % 256))]))))) = AV.bool true) ∧ ((AV.bool (Rt.hear (Prod.fst (sK (xI root a b w3) [] (List.take 1 (List.drop 0 [UInt8.ofNat (Int.toNat ((nK w3) % 256))]))))) = AV.bool false) ∧ ((List.length (Rt.kept (Prod.fst (sK (xI root a b w3) [] (List.take 1 (List.drop 0 [UInt8.ofNat (Int.toNat ((nK w3) % 256))]))))) = 0) ∧ ((∀ w5 : Nat, (w5 < (List.length (Rt.kept (xI root a b w4))) → leR [b8K (Kp.peer (List.getD (Rt.kept (Prod.fst (sK (xI root a b w3) [] (List.take 1 (List.drop 0 [UInt8.ofNat (Int.toNat ((nK w3) % 256))]))))) w5 kp0)), iK (Kp.n (List.getD (Rt.kept (Prod.fst (sK (xI root a b w3) [] (List.take 1 (List.drop 0 [UInt8.ofNat (Int.toNat ((nK w3) % 256))]))))) w5 kp0)), b8K (Kp.key (List.getD (Rt.kept (Prod.fst (sK (xI root a b w3) [] (List.take 1 (List.drop 0 [UInt8.ofNat (Int.toNat ((nK w3) % 256))]))))) w5 kp0))] [b8K (Kp.peer (List.getD (Rt.kept (xI root a b w4)) w5 kp0)), iK (Kp.n (List.getD (Rt.kept (xI root a b w4)) w5 kp0)), b8K (Kp.key (List.getD (Rt.kept (xI root a b w4)) w5 kp0))])) ∧ ((b8K (Rt.root (Prod.fst (sO (yI root a b [] (Min.min w3 1)) (keyS 7) [] (sK (xI root a b w3) [] (List.take 1 (List.drop 0 [UInt8.ofNat (Int.toNat ((nK w3) % 256))])))))) = b8K (Rt.root (yI root a b [] (Min.min w4 1)))) ∧ ((b8K (Rt.own (Prod.fst (sO (yI root a b [] (Min.min w3 1)) (keyS 7) [] (sK (xI root a b w3) [] (List.take 1 (List.drop 0 [UInt8.ofNat (Int.toNat ((nK w3) % 256))])))))) = b8K (Rt.own (yI root a b [] (Min.min w4 1)))) ∧ ((b8K (Rt.peer (Prod.fst (sO (yI root a b [] (Min.min w3 1)) (keyS 7) [] (sK (xI root a b w3) [] (List.take 1 (List.drop 0 [UInt8.ofNat (Int.toNat ((nK w3) % 256))])))))) = b8K (Rt.peer (yI root a b [] (Min.min w4 1)))) ∧ ((b8K (Rt.send (Prod.fst (sO (yI root a b [] (Min.min w3 1)) (keyS 7) [] (sK (xI root a b w3) [] (List.take 1 (List.drop 0 [UInt8.ofNat (Int.toNat ((nK w3) % 256))])))))) = b8K (Rt.send (yI root a b [] (Min.min w4 1)))) ∧ ((iK (Rt.out (Prod.fst (sO (yI root a b [] (Min.min w3 1)) (keyS 7) [] (sK (xI root a b w3) [] (List.take 1 (List.drop 0 [UInt8.ofNat (Int.toNat ((nK w3) % 256))])))))) = iK (Rt.out (yI root a b [] (Min.min w4 1)))) ∧ ((b8K (Rt.recv (Prod.fst (sO (yI root a b [] (Min.min w3 1)) (keyS 7) [] (sK (xI root a b w3) [] (List.take 1 (List.drop 0 [UInt8.ofNat (Int.toNat ((nK w3) % 256))])))))) = b8K (Rt.recv (yI root a b [] (Min.min w4 1)))) ∧ ((iK (Rt.inn (Prod.fst (sO (yI root a b [] (Min.min w3 1)) (keyS 7) [] (sK (xI root a b w3) [] (List.take 1 (List.drop 0 [UInt8.ofNat (Int.toNat ((nK w3) % 256))])))))) = iK (Rt.inn (yI root a b [] (Min.min w4 1)))) ∧ ((iK (Rt.last (Prod.fst (sO (yI root a b [] (Min.min w3 1)) (keyS 7) [] (sK (xI root a b w3) [] (List.take 1 (List.drop 0 [UInt8.ofNat (Int.toNat ((nK w3) % 256))])))))) = iK (Rt.last (yI root a b [] (Min.min w4 1)))) ∧ ((AV.bool (Rt.can (Prod.fst (sO (yI root a b [] (Min.min w3 1)) (keyS 7) [] (sK (xI root a b w3) [] (List.take 1 (List.drop 0 [UInt8.ofNat (Int.toNat ((nK w3) % 256))])))))) = AV.bool (Rt.can (yI root a b [] (Min.min w4 1)))) ∧ ((AV.bool (Rt.hear (Prod.fst (sO (yI root a b [] (Min.min w3 1)) (keyS 7) [] (sK (xI root a b w3) [] (List.take 1 (List.drop 0 [UInt8.ofNat (Int.toNat ((nK w3) % 256))])))))) = AV.bool (Rt.hear (yI root a b [] (Min.min w4 1)))) ∧ ((List.length (Rt.kept (Prod.fst (sO (yI root a b [] (Min.min w3 1)) (keyS 7) [] (sK (xI root a b w3) [] (List.take 1 (List.drop 0 [UInt8.ofNat (Int.toNat ((nK w3) % 256))])))))) = List.length (Rt.kept (yI root a b [] (Min.min w4 1)))) ∧ ((∀ w6 : Nat, (w6 < (List.length (Rt.kept (yI root a b [] (Min.min w4 1)))) → leR [b8K (Kp.peer (List.getD (Rt.kept (Prod.fst (sO (yI root a b [] (Min.min w3 1)) (keyS 7) [] (sK (xI root a b w3) [] (List.take 1 (List.drop 0 [UInt8.ofNat (Int.toNat ((nK w3) % 256))])))))) w6 kp0)), iK (Kp.n (List.getD (Rt.kept (Prod.fst (sO (yI root a b [] (Min.min w3 1)) (keyS 7) [] (sK (xI root a b w3) [] (List.take 1 (List.drop 0 [UInt8.ofNat (Int.toNat ((nK w3) % 256))])))))) w6 kp0)), b8K (Kp.key (List.getD (Rt.kept (Prod.fst (sO (yI root a b [] (Min.min w3 1)) (keyS 7) [] (sK (xI root a b w3) [] (List.take 1 (List.drop 0 [UInt8.ofNat (Int.toNat ((nK w3) % 256))])))))) w6 kp0))] [b8K (Kp.peer (List.getD (Rt.kept (yI root a b [] (Min.min w4 1))) w6 kp0)), iK (Kp.n (List.getD (Rt.kept (yI root a b [] (Min.min w4 1))) w6 kp0)), b8K (Kp.key (List.getD (Rt.kept (yI root a b [] (Min.min w4 1))) w6 kp0))])) ∧ ((b8K (Prod.fst (Prod.fst (Prod.snd (sK (xI root a b w3) [] (List.take 1 (List.drop 0 [UInt8.ofNat (Int.toNat ((nK w3) % 256))])))))) = b8K (lastK a w4)) ∧ ((iK (Prod.fst (Prod.snd (Prod.fst (Prod.snd (sK (xI root a b w3) [] (List.take 1 (List.drop 0 [UInt8.ofNat (Int.toNat ((nK w3) % 256))]))))))) = iK 0) ∧ ((iK (Prod.snd (Prod.snd (Prod.fst (Prod.snd (sK (xI root a b w3) [] (List.take 1 (List.drop 0 [UInt8.ofNat (Int.toNat ((nK w3) % 256))]))))))) = iK (lastN w4)) ∧ ((Prod.fst (Prod.snd (Prod.snd (sK (xI root a b w3) [] (List.take 1 (List.drop 0 [UInt8.ofNat (Int.toNat ((nK w3) % 256))]))))) = lastB2 root a b w4) ∧ ((AV.str [] = AV.str []) ∧ True)))))))))))))))))))))))))))))))))))))
 ((∃ w7 : Nat, (((Inv.up w7) < (Inv.up w3)) ∧ (Inv.upTo [iK x0] w7)) ∧ (smK (AV.bool true) (smK (iK (n % 14)) (smK (iK x0) ((iK (wr .i64 ((nK w3) + 1)) = iK (nK w7)) ∧ ((b8K (Rt.root (Prod.fst (sK (xI root a b w3) [] (List.take 1 (List.drop 0 [UInt8.ofNat (Int.toNat ((nK w3) % 256))]))))) = b8K (Rt.root (xI root a b w7))) ∧ ((b8K (Rt.own (Prod.fst (sK (xI root a b w3) [] (List.take 1 (List.drop 0 [UInt8.ofNat (Int.toNat ((nK w3) % 256))]))))) = b8K (Rt.own (xI root a b w7))) ∧ ((b8K (Rt.peer (Prod.fst (sK (xI root a b w3) [] (List.take 1 (List.drop 0 [UInt8.ofNat (Int.toNat ((nK w3) % 256))]))))) = b8K (Rt.peer (xI root a b w7))) ∧ ((b8K (Rt.send (Prod.fst (sK (xI root a b w3) [] (List.take 1 (List.drop 0 [UInt8.ofNat (Int.toNat ((nK w3) % 256))]))))) = b8K (Rt.send (xI root a b w7))) ∧ ((iK (Rt.out (Prod.fst (sK (xI root a b w3) [] (List.take 1 (List.drop 0 [UInt8.ofNat (Int.toNat ((nK w3) % 256))]))))) = iK (Rt.out (xI root a b w7))) ∧ ((b8K (Rt.recv (Prod.fst (sK (xI root a b w3) [] (List.take 1 (List.drop 0 [UInt8.ofNat (Int.toNat ((nK w3) % 256))]))))) = b8K (Rt.recv (xI root a b w7))) ∧ ((iK (Rt.inn (Prod.fst (sK (xI root a b w3) [] (List.take 1 (List.drop 0 [UInt8.ofNat (Int.toNat ((nK w3) % 256))]))))) = iK (Rt.inn (xI root a b w7))) ∧ ((iK (Rt.last (Prod.fst (sK (xI root a b w3) [] (List.take 1 (List.drop 0 [UInt8.ofNat (Int.toNat ((nK w3) % 256))]))))) = iK (Rt.last (xI root a b w7))) ∧ ((AV.bool (Rt.can (Prod.fst (sK (xI root a b w3) [] (List.take 1 (List.drop 0 [UInt8.ofNat (Int.toNat ((nK w3) % 256))]))))) = AV.bool true) ∧ ((AV.bool (Rt.hear (Prod.fst (sK (xI root a b w3) [] (List.take 1 (List.drop 0 [UInt8.ofNat (Int.toNat ((nK w3) % 256))]))))) = AV.bool false) ∧ ((List.length (Rt.kept (Prod.fst (sK (xI root a b w3) [] (List.take 1 (List.drop 0 [UInt8.ofNat (Int.toNat ((nK w3) % 256))]))))) = 0) ∧ ((∀ w8 : Nat, (w8 < (List.length (Rt.kept (xI root a b w7))) → leR [b8K (Kp.peer (List.getD (Rt.kept (Prod.fst (sK (xI root a b w3) [] (List.take 1 (List.drop 0 [UInt8.ofNat (Int.toNat ((nK w3) % 256))]))))) w8 kp0)), iK (Kp.n (List.getD (Rt.kept (Prod.fst (sK (xI root a b w3) [] (List.take 1 (List.drop 0 [UInt8.ofNat (Int.toNat ((nK w3) % 256))]))))) w8 kp0)), b8K (Kp.key (List.getD (Rt.kept (Prod.fst (sK (xI root a b w3) [] (List.take 1 (List.drop 0 [UInt8.ofNat (Int.toNat ((nK w3) % 256))]))))) w8 kp0))] [b8K (Kp.peer (List.getD (Rt.kept (xI root a b w7)) w8 kp0)), iK (Kp.n (List.getD (Rt.kept (xI root a b w7)) w8 kp0)), b8K (Kp.key (List.getD (Rt.kept (xI root a b w7)) w8 kp0))])) ∧ ((b8K (Rt.root (yI root a b [] (Min.min w3 1))) = b8K (Rt.root (yI root a b [] (Min.min w7 1)))) ∧ ((b8K (Rt.own (yI root a b [] (Min.min w3 1))) = b8K (Rt.own (yI root a b [] (Min.min w7 1)))) ∧ ((b8K (Rt.peer (yI root a b [] (Min.min w3 1))) = b8K (Rt.peer (yI root a b [] (Min.min w7 1)))) ∧ ((b8K (Rt.send (yI root a b [] (Min.min w3 1))) = b8K (Rt.send (yI root a b [] (Min.min w7 1)))) ∧ ((iK (Rt.out (yI root a b [] (Min.min w3 1))) = iK (Rt.out (yI root a b [] (Min.min w7 1)))) ∧ ((b8K (Rt.recv (yI root a b [] (Min.min w3 1))) = b8K (Rt.recv (yI root a b [] (Min.min w7 1)))) ∧ ((iK (Rt.inn (yI root a b [] (Min.min w3 1))) = iK (Rt.inn (yI root a b [] (Min.min w7 1)))) ∧ ((iK (Rt.last (yI root a b [] (Min.min w3 1))) = iK (Rt.last (yI root a b [] (Min.min w7 1)))) ∧ ((AV.bool (Rt.can (yI root a b [] (Min.min w3 1))) = AV.bool (Rt.can (yI root a b [] (Min.min w7 1)))) ∧ ((AV.bool (Rt.hear (yI root a b [] (Min.min w3 1))) = AV.bool (Rt.hear (yI root a b [] (Min.min w7 1)))) ∧ ((List.length (Rt.kept (yI root a b [] (Min.min w3 1))) = List.length (Rt.kept (yI root a b [] (Min.min w7 1)))) ∧ ((∀ w9 : Nat, (w9 < (List.length (Rt.kept (yI root a b [] (Min.min w7 1)))) → leR [b8K (Kp.peer (List.getD (Rt.kept (yI root a b [] (Min.min w3 1))) w9 kp0)), iK (Kp.n (List.getD (Rt.kept (yI root a b [] (Min.min w3 1))) w9 kp0)), b8K (Kp.key (List.getD (Rt.kept (yI root a b [] (Min.min w3 1))) w9 kp0))] [b8K (Kp.peer (List.getD (Rt.kept (yI root a b [] (Min.min w7 1))) w9 kp0)), iK (Kp.n (List.getD (Rt.kept (yI root a b [] (Min.min w7 1))) w9 kp0)), b8K (Kp.key (List.getD (Rt.kept (yI root a b [] (Min.min w7 1))) w9 kp0))])) ∧ ((b8K (Prod.fst (Prod.fst (Prod.snd (sK (xI root a b w3) [] (List.take 1 (List.drop 0 [UInt8.ofNat (Int.toNat ((nK w3) % 256))])))))) = b8K (lastK a w7)) ∧ ((iK (Prod.fst (Prod.snd (Prod.fst (Prod.snd (sK (xI root a b w3) [] (List.take 1 (List.drop 0 [UInt8.ofNat (Int.toNat ((nK w3) % 256))]))))))) = iK 0) ∧ ((iK (Prod.snd (Prod.snd (Prod.fst (Prod.snd (sK (xI root a b w3) [] (List.take 1 (List.drop 0 [UInt8.ofNat (Int.toNat ((nK w3) % 256))]))))))) = iK (lastN w7)) ∧ ((Prod.fst (Prod.snd (Prod.snd (sK (xI root a b w3) [] (List.take 1 (List.drop 0 [UInt8.ofNat (Int.toNat ((nK w3) % 256))]))))) = lastB2 root a b w7) ∧ ((AV.str [] = AV.str []) ∧ True))))))))))))))))))))))))))))))))))))))
 (cnd ((((leB (List.length (Rt.kept (yI root a b [] (Min.min w3 1)))) 1000000000) && (isKps (List.length (Rt.kept (yI root a b [] (Min.min w3 1)))) (kcs (Rt.kept (yI root a b [] (Min.min w3 1)))))) && (leB (List.length (lastB2 root a b w3)) 1000000000)) && (((Bool.not (Rt.hear (yI root a b [] (Min.min w3 1)))) || ((lastK a w3) == (Rt.peer (yI root a b [] (Min.min w3 1))))) || (Bool.not (ltI (Rt.inn (yI root a b [] (Min.min w3 1))) 0))))
 (ite2 (ltI 8 (n % 14))
 (ite2 (cond true ((Prod.snd (Prod.snd (oK (yI root a b [] (Min.min w3 1)) (keyS 8) [] (lastK a w3) 0 (lastN w3) (lastB2 root a b w3)))) == 6) false)
 (K (AV.bool (cond true ((((List.length (Prod.fst (Prod.snd (oK (yI root a b [] (Min.min w3 1)) (keyS 8) [] (lastK a w3) 0 (lastN w3) (lastB2 root a b w3))))) : Nat) : Int) == 0) false)) [])
 (K (AV.bool false) []))
 (ite2 (cond true ((Prod.snd (Prod.snd (oK (yI root a b [] (Min.min w3 1)) (keyS 8) [] (lastK a w3) 0 (lastN w3) (lastB2 root a b w3)))) == 0) false)
 (ite2 (cond true ((((List.length (Prod.fst (Prod.snd (oK (yI root a b [] (Min.min w3 1)) (keyS 8) [] (lastK a w3) 0 (lastN w3) (lastB2 root a b w3))))) : Nat) : Int) == 1) false)
 (cnd ((inB 0 (List.length (Prod.fst (Prod.snd (oK (yI root a b [] (Min.min w3 1)) (keyS 8) [] (lastK a w3) 0 (lastN w3) (lastB2 root a b w3)))))) && true)
 (cnd (leB (0 + (List.length (Prod.fst (Prod.snd (oK (yI root a b [] (Min.min w3 1)) (keyS 8) [] (lastK a w3) 0 (lastN w3) (lastB2 root a b w3)))))) (List.length (Prod.fst (Prod.snd (oK (yI root a b [] (Min.min w3 1)) (keyS 8) [] (lastK a w3) 0 (lastN w3) (lastB2 root a b w3))))))
 (ite2 (cond true ((((UInt8.toNat (List.getD (Prod.fst (Prod.snd (oK (yI root a b [] (Min.min w3 1)) (keyS 8) [] (lastK a w3) 0 (lastN w3) (lastB2 root a b w3)))) 0 0)) : Nat) : Int) == (((UInt8.toNat (UInt8.ofNat (Int.toNat ((wr .i64 ((n % 14) + 1)) % 256)))) : Nat) : Int)) false)
 (ite2 (cond true ((((List.length (Rt.kept (Prod.fst (oK (yI root a b [] (Min.min w3 1)) (keyS 8) [] (lastK a w3) 0 (lastN w3) (lastB2 root a b w3))))) : Nat) : Int) == (n % 14)) false)
 (K (AV.bool (cond true ((Rt.inn (Prod.fst (oK (yI root a b [] (Min.min w3 1)) (keyS 8) [] (lastK a w3) 0 (lastN w3) (lastB2 root a b w3)))) == x0) false)) [])
 (K (AV.bool false) []))
 (K (AV.bool false) []))))
 (K (AV.bool false) []))
 (K (AV.bool false) []))))))) := by kernel_rfl
theorem chain_add (c : List UInt8) (m : Nat) : ∀ j, chainN (chainN c m) j = chainN c (m + j)
 | 0 => rfl
 | j + 1 => by rw [chainN, chain_add c m j]; rfl
theorem skipN_map (p : List UInt8) (i : Int) (c : List UInt8) : ∀ n, skipN p i c n = (List.range n).map fun (j : Nat) => (⟨p, i + (j : Int), kmS (chainN c j)⟩ : Kp)
 | 0 => rfl
 | n + 1 => by rw [skipN, skipN_map p i c n, List.range_succ, List.map_append]; rfl
theorem rise_lt {l : List Nat} (h : l.Pairwise (·< ·)) {i j : Nat} (hij : i < j) (hj : j < l.length) : l.getD i 0 < l.getD j 0 := by
 have := List.pairwise_iff_getElem.1 h i j (by omega) hj hij
 rw [List.getD_eq_getElem?_getD, List.getD_eq_getElem?_getD, List.getElem?_eq_getElem (by omega), List.getElem?_eq_getElem hj]
 exact this
def lowN (left : List Nat) (m : Nat) : List Nat := left.filter fun j => decide (j < m)
theorem mem_low {left : List Nat} {m x : Nat} : x ∈ lowN left m ↔ x ∈ left ∧ x < m := by unfold lowN; rw [List.mem_filter, decide_eq_true_eq]
theorem rise_low {left : List Nat} (h : left.Pairwise (·< ·)) (m : Nat) : (lowN left m).Pairwise (·< ·) := h.sublist (List.filter_sublist ..)
noncomputable def kpI (root a b : Int) (j : Nat) : Kp := ⟨pubS (keyS a), (j : Int), kmS (chainN (xR root a b).send j)⟩
theorem keptI_eq (root a b : Int) (left : List Nat) (m : Nat) : keptI root a b left m = (lowN left m).map (kpI root a b) := rfl
theorem kpI_getD (root a b : Int) {l : List Nat} {i : Nat} (hi : i < l.length) : (l.map (kpI root a b)).getD i kp0 = kpI root a b (l.getD i 0) := by
 rw [List.getD_eq_getElem?_getD, List.getD_eq_getElem?_getD, List.getElem?_map, List.getElem?_eq_getElem hi]; rfl
theorem length_low {left : List Nat} {m : Nat} (h : left.length ≤ 8) : (lowN left m).length ≤ 8 := Nat.le_trans (List.length_filter_le ..) h
theorem kps_ok {root a b : Int} {l : List Nat} (h : l.Pairwise (·< ·)) (h8 : ∀ x ∈ l, x < 1000) : kpsOk (l.map (kpI root a b)) := by
 intro i hi
 rw [List.length_map] at hi
 unfold kpOk
 rw [kpI_getD root a b hi]
 have hm : l.getD i 0 ∈ l := by rw [List.getD_eq_getElem?_getD, List.getElem?_eq_getElem hi]; exact List.getElem_mem _
 refine ⟨inN_iff.2 ⟨by show (0 : Int) ≤ ((l.getD i 0 : Nat) : Int); omega, by have := h8 _ hm; show ((l.getD i 0 : Nat) : Int) ≤ 1073741824; omega⟩, fun j hj => ?_⟩
 rw [kpI_getD root a b (by omega)]
 rintro ⟨_, e⟩
 have e : ((l.getD j 0 : Nat) : Int) = ((l.getD i 0 : Nat) : Int) := e
 have := rise_lt h hj hi
 omega
theorem key_no {root a b : Int} {l : List Nat} {n : Nat} (hn : n ∉ l) : (l.map (kpI root a b)).findIdx? (isKp (pubS (keyS a)) (n : Int)) = none := by
 refine find_none fun j hj => ?_
 rw [List.length_map] at hj
 rw [kpI_getD root a b hj]
 rintro ⟨_, e⟩
 have e : ((l.getD j 0 : Nat) : Int) = (n : Int) := e
 refine hn ?_
 have : n = l.getD j 0 := by omega
 rw [this, List.getD_eq_getElem?_getD, List.getElem?_eq_getElem hj]
 exact List.getElem_mem _
theorem xI_seal (root a b : Int) (t : List UInt8) {i : Nat} (hi : i < 1000) (ht : t.length ≤ 400) : sealRS (xI root a b i) [] t = (xI root a b (i + 1), (pubS (keyS a), 0, (i : Int)), msgS root a b t i, 0) := by
 rw [msgS_eq]
 refine seal_good (chk_nil (c := 1000) ⟨by decide, ?_, ?_, ?_, ?_, ?_, ?_⟩ (by decide) rfl) rfl ht (by decide) ?_
 ·show (0 : Int) ≤ (i : Int); omega
 ·show (i : Int) ≤ 1000; omega
 ·show (0 : Int) ≤ 0; omega
 ·show (0 : Int) ≤ 1000; omega
 ·show (0 : Int) ≤ 0; omega
 ·show (0 : Int) ≤ 1000; omega
 ·show (i : Int) ≠ 1073741824; omega
theorem length_msgS (root a b : Int) (t : List UInt8) (i : Nat) : (msgS root a b t i).length = t.length + 16 := by rw [msgS_eq, length_sealS]
theorem tail_far {root a b : Int} {R : Rt} {m n : Nat} {t : List UInt8} (hear : R.hear = true) (hi : R.inn = (m : Int)) (hc : R.recv = chainN (xR root a b).send m) (hp : R.peer = pubS (keyS a)) (hmn : m ≤ n) (hn : n ≤ m + 8) (h1 : n < 1000) (hk : R.kept.length + (n - m) ≤ 12) (ht : t.length ≤ 400) :
  openTail R (n : Int) ([] ++ headS (pubS (keyS a)) 0 (n : Int)) (msgS root a b t n) = ({ R with kept := R.kept ++ (List.range (n - m)).map (fun j => kpI root a b (m + j)), recv := chainN (xR root a b).send (n + 1), inn := ((n + 1 : Nat) : Int) }, t, 0) := by
 have had : ([] ++ headS (pubS (keyS a)) 0 (n : Int)).length ≤ 200 := ad_le (by decide) (length_pubS _)
 rw [msgS_eq]
 rcases Nat.lt_or_ge m n with hlt | hge
 ·unfold openTail
  rw [if_neg (by omega), if_neg (by omega), skip_eq (j := n - m) hear (by omega) (by omega) (by omega), if_neg (by simp)]
  dsimp only
  have e0 : R.kept.length + (n - m) - 12 = 0 := by omega
  have e1 : chainN R.recv (n - m) = chainN (xR root a b).send n := by rw [hc, chain_add, show m + (n - m) = n by omega]
  rw [e0, List.drop_zero, e1, skipN_map, hp, hc, hi]
  have e2 : (List.range (n - m)).map (fun (j : Nat) => (⟨pubS (keyS a), (m : Int) + (j : Int), kmS (chainN (chainN (xR root a b).send m) j)⟩ : Kp)) = (List.range (n - m)).map (fun j => kpI root a b (m + j)) := by
   refine List.map_congr_left fun j _ => ?_
   rw [chain_add]
   unfold kpI
   rw [show (m : Int) + (j : Int) = ((m + j : Nat) : Int) by omega]
  rw [e2]
  exact end_good had ht
 ·obtain rfl : n = m := by omega
  rw [tail_good hi.symm (by omega) had ht (by rw [hc]), hi, Nat.sub_self]
  show _ = (({ R with kept := R.kept ++ [], recv := chainN (xR root a b).send (n + 1), inn := ((n + 1 : Nat) : Int) } : Rt), t, (0 : Int))
  rw [List.append_nil, hc]
  rfl
theorem send_comm (root a b : Int) : chainS (keyS root) (keyS b) (pubS (keyS a)) = (xR root a b).send := chain_comm
noncomputable def yG (root a b : Int) (left : List Nat) (m : Nat) : Rt :=
 ⟨rootS (rootS (keyS root) (keyS b) (pubS (keyS a))) (keyS 7) (pubS (keyS a)), keyS 7, pubS (keyS a), chainS (rootS (keyS root) (keyS b) (pubS (keyS a))) (keyS 7) (pubS (keyS a)), 0, chainN (xR root a b).send m, (m : Int), 0, true, true, keptI root a b left m⟩
theorem yI_pos (root a b : Int) (left : List Nat) {m : Nat} (h : m ≠ 0) : yI root a b left m = yG root a b left m := by rw [yI_eq]; unfold yF; rw [if_neg h]; rfl
theorem yI_zero (root a b : Int) (left : List Nat) : yI root a b left 0 = yR root b := by rw [yI_eq]; unfold yF; rw [if_pos rfl]
theorem chk_Y {root a b : Int} {left : List Nat} {m : Nat} (h : left.Pairwise (·< ·)) (hl : left.length ≤ 8) (hm : m ≤ 100) : chkS (yG root a b left m).out (yG root a b left m).inn (yG root a b left m).last (yG root a b left m).kept = 0 := by
 refine chkS_ok ⟨inN_iff.2 ⟨Int.le_refl _, (by decide : (0 : Int) ≤ 1073741824)⟩, inN_iff.2 ⟨?_, ?_⟩, inN_iff.2 ⟨Int.le_refl _, (by decide : (0 : Int) ≤ 1073741824)⟩, ?_, ?_⟩
 ·show (0 : Int) ≤ (m : Int); omega
 ·show (m : Int) ≤ 1073741824; omega
 ·show (keptI root a b left m).length ≤ 12
  rw [keptI_eq, List.length_map]
  have := length_low (m := m) hl
  omega
 ·exact kps_ok (rise_low h m) fun x hx => by have := (mem_low.1 hx).2; omega
theorem open_one {root a b sec : Int} {t : List UInt8} {n : Nat} (hn : n ≤ 8) (ht : t.length ≤ 400) (hs : sec = 7) :
  openRS (yR root b) (keyS sec) [] (pubS (keyS a)) 0 (n : Int) (msgS root a b t n) = ({ yG root a b [] 0 with kept := (List.range n).map (kpI root a b), recv := chainN (xR root a b).send (n + 1), inn := ((n + 1 : Nat) : Int) }, t, 0) := by
 subst hs
 rw [openRS_eq]
 unfold openF
 rw [if_neg (by rw [chk_nil (c := 0) ⟨Int.le_refl _, Int.le_refl _, Int.le_refl _, Int.le_refl _, Int.le_refl _, Int.le_refl _, Int.le_refl _⟩ (by decide) rfl]; simp), if_neg (in_both (Int.le_refl _) (by decide) (by omega) (by omega)), if_neg (by simp),
  show (yR root b).kept.findIdx? (isKp (pubS (keyS a)) (n : Int)) = none from rfl]
 dsimp only
 rw [if_pos (.inl rfl), skip_no (.inl rfl), if_neg (by simp), if_neg (by rw [show (yR root b).own = keyS b from rfl, dh_tells (length_keyS b) (length_keyS a)]; simp), if_neg (by rw [dh_tells (length_keyS 7) (length_keyS a)]; simp)]
 rw [tail_far (root := root) (a := a) (b := b) (m := 0) rfl rfl (send_comm root a b) rfl (Nat.zero_le n) (by omega) (by omega) (by show 0 + (n - 0) ≤ 12; omega) ht]
 have e : (List.range (n - 0)).map (fun j => kpI root a b (0 + j)) = (List.range n).map (kpI root a b) := by
  rw [Nat.sub_zero]
  exact List.map_congr_left fun j _ => by rw [Nat.zero_add]
 rw [e]
 rfl
theorem skip_far {root a b sec : Int} {k : Nat} {t : List UInt8} (hk : k < 14) (ht : t.length ≤ 400) :
  (8 < k → openRS (yI root a b [] 1) (keyS sec) [] (pubS (keyS a)) 0 ((k + 1 : Nat) : Int) (msgS root a b t (k + 1)) = errT 6) ∧
  (k ≤ 8 → ∃ r, openRS (yI root a b [] 1) (keyS sec) [] (pubS (keyS a)) 0 ((k + 1 : Nat) : Int) (msgS root a b t (k + 1)) = (r, t, 0) ∧ r.kept.length = k ∧ r.inn = ((k + 2 : Nat) : Int)) := by
 rw [yI_pos root a b [] (by decide), openRS_eq]
 unfold openF
 rw [if_neg (by rw [chk_Y List.Pairwise.nil (by decide) (by decide)]; simp), if_neg (in_both (Int.le_refl _) (by decide) (by omega) (by omega)), if_neg (by simp), show (yG root a b [] 1).kept = ([] : List Nat).map (kpI root a b) from rfl, key_no (by simp)]
 dsimp only
 rw [if_neg (by
   rintro (g | g)
   ·exact Bool.noConfusion g
   ·exact g rfl)]
 refine ⟨fun h => ?_, fun h => ?_⟩
 ·have hi : (yG root a b [] 1).inn = 1 := rfl
  unfold openTail
  rw [if_neg (by rw [hi]; omega), if_neg (by omega)]
  have hs : skipF (yG root a b [] 1) ((k + 1 : Nat) : Int) = (yG root a b [] 1, 6) := by
   unfold skipF
   rw [if_neg (by
    rintro (g | g)
    ·exact Bool.noConfusion g
    ·rw [hi] at g; omega), if_pos (by rw [hi]; omega)]
  rw [hs, if_pos (by simp)]
 ·rw [tail_far (root := root) (a := a) (b := b) (m := 1) rfl rfl rfl rfl (by omega) (by omega) (by omega) (by show 0 + (k + 1 - 1) ≤ 12; omega) ht]
  refine ⟨_, rfl, ?_, rfl⟩
  show ([] ++ (List.range (k + 1 - 1)).map (fun j => kpI root a b (1 + j))).length = k
  rw [List.nil_append, List.length_map, List.length_range]; omega
set_option maxHeartbeats 4000000
theorem isKps_z {r : Rt} (h : r.kept = []) : (leB r.kept.length 1000000000 && isKps r.kept.length (kcs r.kept)) = true := by
 rw [isKps_kcs, h]; rfl
theorem isKps_0 {r : Rt} (h : r.kept = []) : isKps 0 (kcs r.kept) = true := by
 have := isKps_kcs (l := r.kept)
 rw [h] at this
 rw [h]; exact this
theorem res_true {b : Bool} (h : b = true) : (Out.ret (.bool true) []).has (.bool b) [] := by subst h; exact ⟨rfl, rfl⟩
theorem ite2_no {b : Bool} {p q : Prop} (h : b = false) (hq : q) : ite2 b p q := by subst h; exact hq
theorem ite2_yes {b : Bool} {p q : Prop} (h : b = true) (hp : p) : ite2 b p q := by subst h; exact hp
theorem byteI {i : Nat} (h : i < 256) : UInt8.ofNat (Int.toNat (((i : Nat) : Int) % 256)) = UInt8.ofNat i := by rw [show Int.toNat (((i : Nat) : Int) % 256) = i by omega]
theorem lastN_succ (i : Nat) : lastN (i + 1) = (i : Int) := by unfold lastN; rw [if_neg (by omega)]; omega
theorem talkSkips_c (root : Int) (_n0 : -9223372036854775808 ≤ root ∧ root ≤ 9223372036854775807) (a : Int) (_n1 : -9223372036854775808 ≤ a ∧ a ≤ 9223372036854775807) (b : Int) (_n2 : -9223372036854775808 ≤ b ∧ b ≤ 9223372036854775807) (n : Int) (_n3 : -9223372036854775808 ≤ n ∧ n ≤ 9223372036854775807) :
  HCall Tryd.E 5 [.int .i64 root, .int .i64 a, .int .i64 b, .int .i64 n] (.ret (.bool true) []) := by
 refine HCall.of_walk (R := RF) (T := W4) (skipsL root a b) 4 rfl rfl ?_
 rw [tskips_eq]
 dsimp only [iK, b8K, z8K, smK, q1K, q2K, nK, rvK, sO]
 have hm := Int.emod_nonneg n (show (14 : Int) ≠ 0 by decide)
 have hm2 := Int.emod_lt_of_pos n (show (0 : Int) < 14 by decide)
 generalize hn : n % 14 = m at *
 obtain ⟨k, rfl⟩ : ∃ k : Nat, m = (k : Int) := ⟨m.toNat, by omega⟩
 have hk : k < 14 := by omega
 have hw1 : wr .i64 (((k : Nat) : Int) + 2) = ((k + 2 : Nat) : Int) := by rw [wr_of (by omega) (by omega)]; rfl
 have hw2 : wr .i64 (((k : Nat) : Int) + 1) = ((k + 1 : Nat) : Int) := by rw [wr_of (by omega) (by omega)]; rfl
 rw [hw1, hw2]
 refine ⟨⟨0, by rw [Inv.upTo_int]; omega, ?_⟩, fun i hi => ?_⟩
 ·rw [show yI root a b [] (min 0 1) = yR root b from yI_zero root a b []]
  (repeat' first | exact rfl | trivial | apply And.intro | (intro _ _; first | exact rfl | exact leR.refl rfl))
 rw [Inv.upTo_int] at hi
 have hw3 : wr .i64 (((i : Nat) : Int) + 1) = ((i + 1 : Nat) : Int) := by rw [wr_of (by omega) (by omega)]; rfl
 rw [hw3]
 refine ite2_iff.2 ⟨fun hlt => ?_, fun hlt => ?_⟩
 ·have hlt := (ltI_iff _ _).1 hlt
  have q1 := xI_seal root a b [UInt8.ofNat i] (i := i) (by omega) (by show 1 ≤ 400; decide)
  have bi := byteI (i := i) (by omega)
  generalize hS1 : sK _ _ _ = sl1
  have e1 : sl1 = (xI root a b (i + 1), (pubS (keyS a), 0, (i : Int)), msgS root a b [UInt8.ofNat i] i, 0) := by rw [← hS1, sK_eq, bi]; exact q1
  clear hS1
  subst e1
  dsimp only
  refine cnd_iff.2 ⟨by rw [isKps_0 rfl]; rfl, ite2_no rfl (ite2_iff.2 ⟨fun h0 => ?_, fun h0 => ?_⟩)⟩
  ·obtain rfl : i = 0 := by have := eq_of_beq h0; omega
   have hy : yI root a b [] (min 0 1) = yR root b := yI_zero root a b []
   rw [hy]
   have q2 := open_one (root := root) (a := a) (b := b) (sec := 7) (t := [UInt8.ofNat 0]) (n := 0) (by decide) (by decide) rfl
   have hy1 : yI root a b [] (min (0 + 1) 1) = yI root a b [] 1 := rfl
   generalize hO1 : oK _ _ _ _ _ _ _ = o1
   have e1 : o1 = (yI root a b [] 1, [UInt8.ofNat 0], 0) := by rw [← hO1, oK_eq]; refine Eq.trans q2 ?_; rw [yI_pos root a b [] (by decide)]; rfl
   clear hO1
   subst e1
   dsimp only
   refine cnd_iff.2 ⟨?_, ite2_no rfl ⟨1, ⟨Inv.up_lt (by omega), by rw [Inv.upTo_int]; omega⟩, ?_⟩⟩
   ·rw [isKps_z (r := yR root b) rfl, leB_of (by rw [length_msgS]; decide)]; rfl
   ·rw [show yI root a b [] (min 1 1) = yI root a b [] 1 from rfl]
    (repeat' first | exact rfl | trivial | apply And.intro | (intro _ _; first | exact rfl | exact leR.refl rfl))
  ·have h0 := ne_of_beq_false h0
   obtain ⟨j, rfl⟩ : ∃ j, i = j + 1 := ⟨i - 1, by omega⟩
   rw [show min (j + 1) 1 = 1 by omega]
   refine ⟨j + 1 + 1, ⟨Inv.up_lt (by omega), by rw [Inv.upTo_int]; omega⟩, ?_⟩
   rw [show min (j + 1 + 1) 1 = 1 by omega, lastN_succ (j + 1)]
   (repeat' first | exact rfl | trivial | apply And.intro | (intro _ _; first | exact rfl | exact leR.refl rfl))
 ·have hge : ¬ ((i : Nat) : Int) < ((k + 2 : Nat) : Int) := ltI_ge hlt
  obtain rfl : i = k + 2 := by omega
  rw [show min (k + 2) 1 = 1 by omega, lastN_succ (k + 1), show lastK a (k + 2) = pubS (keyS a) from rfl, show lastB2 root a b (k + 2) = msgS root a b [UInt8.ofNat (k + 1)] (k + 1) from rfl]
  have bk := byteI (i := k + 1) (by omega)
  rw [bk]
  obtain ⟨g1, g2⟩ := skip_far (root := root) (a := a) (b := b) (sec := 8) (k := k) (t := [UInt8.ofNat (k + 1)]) hk (by show 1 ≤ 400; decide)
  have hyk : (yI root a b [] 1).kept = [] := by rw [yI_pos root a b [] (by decide)]; rfl
  have hyp : (yI root a b [] 1).peer = pubS (keyS a) := by rw [yI_pos root a b [] (by decide)]; rfl
  generalize hO1 : oK _ _ _ _ _ _ _ = o1
  rw [oK_eq] at hO1
  have hO1 : openRS (yI root a b [] 1) (keyS 8) [] (pubS (keyS a)) 0 ((k + 1 : Nat) : Int) (msgS root a b [UInt8.ofNat (k + 1)] (k + 1)) = o1 := hO1
  refine cnd_iff.2 ⟨?_, ite2_iff.2 ⟨fun h8 => ?_, fun h8 => ?_⟩⟩
  ·rw [isKps_z hyk, leB_of (by rw [length_msgS]; show 1 + 16 ≤ _; decide), hyp, beq_self_eq_true, Bool.or_true]; rfl
  ·have h8 := (ltI_iff _ _).1 h8
   rw [g1 (by omega)] at hO1
   subst hO1
   exact ite2_yes rfl (res_true rfl)
  ·have h8 := ltI_ge h8
   obtain ⟨r, e1, e2, e3⟩ := g2 (by omega)
   rw [e1] at hO1
   subst hO1
   refine ite2_yes rfl (ite2_yes rfl (cnd_iff.2 ⟨rfl, cnd_iff.2 ⟨rfl, ite2_yes ?_ (ite2_yes ?_ (res_true ?_))⟩⟩))
   ·exact beq_self_eq_true _
   ·show ((((r.kept.length : Nat) : Int)) == ((k : Nat) : Int)) = true
    rw [e2]; exact beq_self_eq_true _
   ·show (r.inn == ((k + 2 : Nat) : Int)) = true
    rw [e3]; exact beq_self_eq_true _
end Go.Proofs.YtehaohfglolljaaDoor