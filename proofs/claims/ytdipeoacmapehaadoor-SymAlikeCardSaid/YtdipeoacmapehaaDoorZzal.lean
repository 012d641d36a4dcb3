import Derived.Test.YtdipeoacmapehaaDoorZzah
import Derived.Test.YtdipeoacmapehaaDoorZzak
import Derived.Test.YtdipeoacmapehaaDoorZzaf
import Derived.Test.YtdipeoacmapehaaDoorZzaj
import Derived.Test.YtdipeoacmapehaaDoorZzag
import Derived.Test.YtdipeoacmapehaaDoorZzae
import Derived.Test.YtdipeoacmapehaaDoorZzab
set_option linter.unusedSimpArgs false
set_option linter.unusedVariables false
namespace Go.Proofs.YtdipeoacmapehaaDoor
open Go Go.V Go.Fld Go.Pol Go.Cha Go.Bla
set_option maxRecDepth 100000
/-- What a text becomes, and how far the number goes. -/
noncomputable def symSF (has : Bool) (ck : List UInt8) (n : UInt64) (hash b : List UInt8) : List UInt8 := bif has then sealS ck (cnonceS n) hash b else b
noncomputable def symS : Bool → List UInt8 → UInt64 → List UInt8 → List UInt8 → List UInt8 := (sealed symSF).val
theorem symS_eq : symS = symSF := by rw [symS, (sealed symSF).property]
noncomputable def symOF (has : Bool) (ck : List UInt8) (n : UInt64) (b : List UInt8) : List UInt8 := bif has then plainS ck (cnonceS n) b else b
noncomputable def symO : Bool → List UInt8 → UInt64 → List UInt8 → List UInt8 := (sealed symOF).val
theorem symO_eq : symO = symOF := by rw [symO, (sealed symOF).property]
noncomputable def symNF (has : Bool) (n : UInt64) : UInt64 := bif has then n + 1 else n
noncomputable def symN : Bool → UInt64 → UInt64 := (sealed symNF).val
theorem symN_eq : symN = symNF := by rw [symN, (sealed symNF).property]
/-- May it be used? -/
noncomputable def symKF (has : Bool) (ck : List UInt8) (n : UInt64) : Bool := bif has then !maxB n else nilC ck n
noncomputable def symK : Bool → List UInt8 → UInt64 → Bool := (sealed symKF).val
theorem symK_eq : symK = symKF := by rw [symK, (sealed symKF).property]
/-- Does it open? -/
noncomputable def symBF (has : Bool) (ck : List UInt8) (n : UInt64) (hash b : List UInt8) : Bool := bif has then leB 16 b.length && !(badS ck (cnonceS n) hash b) else true
noncomputable def symB : Bool → List UInt8 → UInt64 → List UInt8 → List UInt8 → Bool := (sealed symBF).val
theorem symB_eq : symB = symBF := by rw [symB, (sealed symBF).property]
noncomputable def symLF (has : Bool) (b : List UInt8) : Nat := bif has then b.length + 16 else b.length
noncomputable def symMF (has : Bool) (b : List UInt8) : Nat := bif has then b.length - 16 else b.length
noncomputable def sealO' (has : Bool) (ck : List UInt8) (n : UInt64) (chain hash b : List UInt8) : Out :=
  .ret (.tup [symV has ck (symN has n) chain (sumS (hash ++ symS has ck n hash b)), .sl 0 0 1 (symS has ck n hash b).length, .int .i64 0]) [.grow8 (symS has ck n hash b) []]
noncomputable def openO' (has : Bool) (ck : List UInt8) (n : UInt64) (chain hash b : List UInt8) : Out :=
  .ret (.tup [symV has ck (symN has n) chain (sumS (hash ++ b)), .sl 0 0 1 (symO has ck n b).length, .int .i64 0]) [.grow8 (symO has ck n b) []]

theorem yseal_c (chain hash ck b : List UInt8) (has fb : Bool) (n : UInt64) (h1 : hash.length ≤ 200) (h2 : b.length ≤ 800) (h3 : symK has ck n = true) :
    HCall Tryd.E 18 [.agg [.bool has, .b8 32 ck, .u64 n, .b8 32 chain, .b8 32 hash], .vec8 fb b] (sealO' has ck n chain hash b) := by
  refine HCall.of_walk (R := RQ) (T := Y3) (fun f l => .unroll 5) 5 rfl rfl ?_
  rw [yseal_eq]
  dsimp only
  unfold sealO'
  rw [symS_eq, symN_eq]
  rw [symK_eq] at h3
  rw [ltB_no (by omega), ltB_no (by omega)]
  cases has with
  | true =>
    have h3 : maxB n = false := by simpa [symKF] using h3
    have hl := length_sealS ck (cnonceS n) hash b
    have e1 : List.take (b.length + 16) (List.drop 0 (sealS ck (cnonceS n) hash b)) = sealS ck (cnonceS n) hash b := by rw [← hl, List.drop_zero, List.take_length]
    rw [h3, e1, leB_of (by omega), leB_of (by omega), ← hl]
    exact ⟨rfl, rfl⟩
  | false =>
    have h3 : nilC ck n = true := by simpa [symKF] using h3
    rw [h3, all8, leB_of (a := 0 + b.length) (by omega), leB_of (a := hash.length + b.length) (by omega)]
    exact ⟨rfl, rfl⟩
theorem yopen_c (chain hash ck b : List UInt8) (has fb : Bool) (n : UInt64) (h1 : hash.length ≤ 200) (h2 : b.length ≤ 800) (h3 : symK has ck n = true) (h4 : symB has ck n hash b = true) :
    HCall Tryd.E 19 [.agg [.bool has, .b8 32 ck, .u64 n, .b8 32 chain, .b8 32 hash], .vec8 fb b] (openO' has ck n chain hash b) := by
  refine HCall.of_walk (R := RQ) (T := Y3) (fun f l => .unroll 5) 5 rfl rfl ?_
  rw [yopen_eq]
  dsimp only
  unfold openO'
  rw [symO_eq, symN_eq]
  rw [symK_eq] at h3
  rw [symB_eq] at h4
  rw [ltB_no (a := 800) (by omega), ltB_no (a := 200) (by omega), ltB_no (a := 816) (by omega), leB_of (a := b.length) (by omega), leB_of (a := hash.length + b.length) (by omega)]
  cases has with
  | true =>
    have h3 : maxB n = false := by simpa [symKF] using h3
    have h4 : (leB 16 b.length && !(badS ck (cnonceS n) hash b)) = true := by simpa [symBF] using h4
    simp only [Bool.and_eq_true, Bool.not_eq_true'] at h4
    have hl : (plainS ck (cnonceS n) b).length = b.length - 16 := length_plainS _ _ _
    rw [h3, ltB_no (leB_iff.1 h4.1), h4.2, ← hl]
    exact ⟨rfl, rfl⟩
  | false =>
    have h3 : nilC ck n = true := by simpa [symKF] using h3
    rw [h3]
    exact ⟨rfl, rfl⟩
def zero32' : List UInt8 := [0, 0, 0, 0, 0, 0, 0, 0, 0, 0, 0, 0, 0, 0, 0, 0, 0, 0, 0, 0, 0, 0, 0, 0, 0, 0, 0, 0, 0, 0, 0, 0]
noncomputable def nameF (s : List UInt8) : List UInt8 := bif ltB 32 s.length then sumS s else List.take 32 s ++ List.drop (min s.length 32) zero32'
noncomputable def nameS : List UInt8 → List UInt8 := (sealed nameF).val
theorem nameS_eq : nameS = nameF := by rw [nameS, (sealed nameF).property]
theorem ybegin_c (s : List UInt8) (h : s.length ≤ 1000000) : HCall Tryd.E 12 [.str s] (.ret (symV false zero32' 0 (nameS s) (nameS s)) []) := by
  refine HCall.weak (a := AV.agg [AV.agg [AV.bool false, AV.b8 32 zero32', AV.u64 0], AV.b8 32 (nameS s), AV.b8 32 (nameS s)]) ?_ (leV_flat _) rfl
  refine HCall.of_walk (R := RQ) (T := Y1) (fun _ _ => .unroll 5) 5 rfl rfl ?_
  rw [ybegin_eq, nameS_eq]
  unfold nameF
  dsimp only
  rw [show ltI 32 ((s.length : Nat) : Int) = ltB 32 s.length from rfl, leB_of (a := 0 + s.length) (by omega), all8, leB_of (a := s.length) (by omega)]
  cases ltB 32 s.length with
  | true => exact ⟨rfl, rfl⟩
  | false => exact ⟨rfl, rfl⟩
theorem ysplit_c (chain hash ck : List UInt8) (has : Bool) (n : UInt64) (h : chain.length ≤ 64) :
    HCall Tryd.E 20 [.agg [.bool has, .b8 32 ck, .u64 n, .b8 32 chain, .b8 32 hash]] (.ret (.agg [.bool true, .b8 32 (key1 chain []), .u64 0, .bool true, .b8 32 (key2 chain []), .u64 0]) []) := by
  refine HCall.weak (a := AV.agg [AV.agg [AV.bool true, AV.b8 32 (key1 chain []), AV.u64 0], AV.agg [AV.bool true, AV.b8 32 (key2 chain []), AV.u64 0]]) ?_ (leV_flat _) rfl
  refine HCall.of_walk (R := RQ) (T := Y1) (fun _ _ => .unroll 5) 5 rfl rfl ?_
  rw [ysplit_eq, leB_of h]
  exact ⟨rfl, rfl⟩
noncomputable def Y4 : Ctr Tryd.E := (((Y3.add 18 (fun
    | [.agg [.bool has, .b8 32 ck, .u64 n, .b8 32 chain, .b8 32 hash], .vec8 _ b] => some (leB hash.length 200 && (leB b.length 800 && symK has ck n), sealO' has ck n chain hash b)
    | _ => none) (by
      intro args pre out h hp
      split at h
      · simp only [Option.some.injEq, Prod.mk.injEq] at h
        obtain ⟨rfl, rfl⟩ := h
        simp only [Bool.and_eq_true] at hp
        exact yseal_c _ _ _ _ _ _ _ (leB_iff.1 hp.1) (leB_iff.1 hp.2.1) hp.2.2
      · simp at h)).add 19 (fun
    | [.agg [.bool has, .b8 32 ck, .u64 n, .b8 32 chain, .b8 32 hash], .vec8 _ b] => some (leB hash.length 200 && (leB b.length 800 && (symK has ck n && symB has ck n hash b)), openO' has ck n chain hash b)
    | _ => none) (by
      intro args pre out h hp
      split at h
      · simp only [Option.some.injEq, Prod.mk.injEq] at h
        obtain ⟨rfl, rfl⟩ := h
        simp only [Bool.and_eq_true] at hp
        exact yopen_c _ _ _ _ _ _ _ (leB_iff.1 hp.1) (leB_iff.1 hp.2.1) hp.2.2.1 hp.2.2.2
      · simp at h)).add 12 (fun
    | [.str s] => some (leB s.length 1000000, .ret (symV false zero32' 0 (nameS s) (nameS s)) [])
    | _ => none) (by
      intro args pre out h hp
      split at h
      · simp only [Option.some.injEq, Prod.mk.injEq] at h
        obtain ⟨rfl, rfl⟩ := h
        exact ybegin_c _ (leB_iff.1 hp)
      · simp at h)).add 20 (fun
    | [.agg [.bool has, .b8 32 ck, .u64 n, .b8 32 chain, .b8 32 hash]] => some (leB chain.length 64, .ret (.agg [.bool true, .b8 32 (key1 chain []), .u64 0, .bool true, .b8 32 (key2 chain []), .u64 0]) [])
    | _ => none) (by
      intro args pre out h hp
      split at h
      · simp only [Option.some.injEq, Prod.mk.injEq] at h
        obtain ⟨rfl, rfl⟩ := h
        exact ysplit_c _ _ _ _ _ (leB_iff.1 hp)
      · simp at h)
end Go.Proofs.YtdipeoacmapehaaDoor

set_option linter.unusedSimpArgs false
set_option linter.unusedVariables false
namespace Go.Proofs.YtdipeoacmapehaaDoor
open Go Go.V
set_option maxHeartbeats 0
set_option maxRecDepth 100000

theorem ucut_eq (s : List UInt8) (m : Int) (K : AV → Heap → Prop) : walk Tryd.E (ROps.rows Tryd.E) (Ctr.nil Tryd.E).C (fun _ _ => .unroll 17) 5 13 [.str s, .int .i64 m] K = (
 let x0 : Nat := (List.length s)
 let x1 : Int := ((x0 : Nat) : Int)
 cnd (sliceOk Option.none (Option.some (cond Bool.false (Max.max x1 m) (Min.min x1 m))) x0)
 (K (AV.str (sliceL Option.none (Option.some (cond Bool.false (Max.max x1 m) (Min.min x1 m))) s)) [])) := by kernel_rfl

end Go.Proofs.YtdipeoacmapehaaDoor

set_option linter.unusedSimpArgs false
set_option linter.unusedVariables false
namespace Go.Proofs.YtdipeoacmapehaaDoor
open Go Go.V
set_option maxRecDepth 100000
theorem ucut_c (s : List UInt8) (m : Int) (hm : 0 ≤ m) : HCall Tryd.E 13 [.str s, .int .i64 m] (.ret (.str (s.take m.toNat)) []) := by
  refine HCall.of_walk (R := ROps.rows Tryd.E) (T := Ctr.nil Tryd.E) (fun _ _ => .unroll 17) 5 rfl rfl ?_
  rw [ucut_eq]
  dsimp only
  rw [ucutOk _ _ hm, ucutL _ _ hm]
  exact ⟨rfl, rfl⟩
noncomputable def Ucut : Ctr Tryd.E := (Ctr.nil Tryd.E).add 13 (fun
    | [.str s, .int .i64 m] => some (nnB m, .ret (.str (s.take m.toNat)) [])
    | _ => none) (by
      intro args pre out h hp
      split at h
      · simp only [Option.some.injEq, Prod.mk.injEq] at h
        obtain ⟨rfl, rfl⟩ := h
        exact ucut_c _ _ (nnB_iff.1 hp)
      · simp at h)
end Go.Proofs.YtdipeoacmapehaaDoor

set_option linter.unusedSimpArgs false
set_option linter.unusedVariables false
namespace Go.Proofs.YtdipeoacmapehaaDoor
open Go Go.V
set_option maxHeartbeats 0
set_option maxRecDepth 100000

theorem usome_eq (full : Bool) (n : Nat) (f : Nat → List AV) (m : Int) (K : AV → Heap → Prop) : walk Tryd.E (ROps.rows Tryd.E) (Ctr.nil Tryd.E).C (fun _ _ => .unroll 17) 5 14 [.vecr full 4 n f, .int .i64 m] K = (
 let x0 : Int := ((n : Nat) : Int)
 cnd (Bool.true && (sliceOk Option.none (Option.some (cond Bool.false (Max.max x0 m) (Min.min x0 m))) n))
 (K (AV.vecr (full && Bool.false) 4 ((hiN n (Option.some (cond Bool.false (Max.max x0 m) (Min.min x0 m)))) - 0) (fun i => f ((loN Option.none) + i))) [])) := by kernel_rfl

end Go.Proofs.YtdipeoacmapehaaDoor

set_option linter.unusedSimpArgs false
set_option linter.unusedVariables false
namespace Go.Proofs.YtdipeoacmapehaaDoor
open Go Go.V
set_option maxRecDepth 100000
theorem usome_c (full : Bool) (n : Nat) (f : Nat → List AV) (m : Int) (hm : 0 ≤ m) : HCall Tryd.E 14 [.vecr full 4 n f, .int .i64 m] (.ret (.vecr false 4 (min n m.toNat) f) []) := by
  refine HCall.of_walk (R := ROps.rows Tryd.E) (T := Ctr.nil Tryd.E) (fun _ _ => .unroll 17) 5 rfl rfl ?_
  rw [usome_eq]
  dsimp only
  have e3 : (fun i => f (loN none + i)) = f := by
    funext i
    show f (0 + i) = f i
    rw [Nat.zero_add]
  rw [usomeOk n m hm, usomeN n m hm, e3, Bool.and_false]
  exact ⟨rfl, rfl⟩
noncomputable def Usome : Ctr Tryd.E := (Ctr.nil Tryd.E).add 14 (fun
    | [.vecr _ 4 n f, .int .i64 m] => some (nnB m, .ret (.vecr false 4 (min n m.toNat) f) [])
    | _ => none) (by
      intro args pre out h hp
      split at h
      · simp only [Option.some.injEq, Prod.mk.injEq] at h
        obtain ⟨rfl, rfl⟩ := h
        exact usome_c _ _ _ _ (nnB_iff.1 hp)
      · simp at h)
end Go.Proofs.YtdipeoacmapehaaDoor

set_option linter.unusedSimpArgs false
set_option linter.unusedVariables false
namespace Go.Proofs.YtdipeoacmapehaaDoor
open Go Go.V
set_option maxRecDepth 100000
theorem upicked_w (n m : Int) (K : AV → Heap → Prop) : walk Tryd.E (ROps.rows Tryd.E) (Ctr.nil Tryd.E).C (fun _ _ => .unroll 6) 3 6 [.int .i64 n, .int .i64 m] K =
    cnd (m != 0) (ite2 (ltI (n.tmod m) 0) (K (.int .i64 (wr .i64 (n.tmod m + m))) []) (K (.int .i64 (n.tmod m)) [])) := by kernel_rfl
theorem upicked_c (n m : Int) (h1 : 0 < m) (h2 : m ≤ 9223372036854775807) : HCall Tryd.E 6 [.int .i64 n, .int .i64 m] (.ret (.int .i64 (n % m)) []) := by
  refine HCall.of_walk (R := ROps.rows Tryd.E) (T := Ctr.nil Tryd.E) (fun _ _ => .unroll 6) 3 rfl rfl ?_
  rw [upicked_w, cnd_eq, ltI_eq, wr_eq]
  refine ⟨by simp; omega, ?_⟩
  have e := pick_val (n := n) h1
  have h6 := Int.emod_nonneg n (show m ≠ 0 by omega)
  have h7 := Int.emod_lt_of_pos n h1
  rw [ite2_eq]
  refine ⟨fun h => ?_, fun h => ?_⟩
  · rw [if_pos (of_decide_eq_true h)] at e
    rw [e, wrapI (by omega) (by omega)]; exact ⟨rfl, rfl⟩
  · rw [if_neg (of_decide_eq_false h)] at e
    rw [e]; exact ⟨rfl, rfl⟩
noncomputable def Upicked : Ctr Tryd.E := (Ctr.nil Tryd.E).add 6 (fun
    | [.int .i64 n, .int .i64 m] => some (decide (0 < m) && decide (m ≤ 9223372036854775807), .ret (.int .i64 (n % m)) [])
    | _ => none) (by
      intro args pre out h hp
      split at h
      · simp only [Option.some.injEq, Prod.mk.injEq] at h
        obtain ⟨rfl, rfl⟩ := h
        simp only [Bool.and_eq_true, decide_eq_true_eq] at hp
        exact upicked_c _ _ hp.1 hp.2
      · simp at h)
end Go.Proofs.YtdipeoacmapehaaDoor

set_option linter.unusedSimpArgs false
set_option linter.unusedVariables false
namespace Go.Proofs.YtdipeoacmapehaaDoor
open Go Go.V Go.Fld Go.Pol Go.Cha Go.Bla
noncomputable def RC : ROps Tryd.E := ROps.cold0 Tryd.E
noncomputable def Y5 : Ctr Tryd.E := Ctr.or (Ctr.or Ucut (Ctr.or Usome Upicked)) Y4
/-- What both know. -/
structure SS where
  i : Nat
  has : Bool
  ck : List UInt8
  n : UInt64
  chain : List UInt8
  hash : List UInt8
def SS.ok (x : SS) : Prop := x.chain.length = 32 ∧ x.hash.length = 32 ∧ ((x.has = true ∧ x.n.toNat ≤ x.i) ∨ (x.has = false ∧ x.ck = zero32' ∧ x.n = 0))
noncomputable def SS.ent (x : SS) : Ent := .blk [symV x.has x.ck x.n x.chain x.hash] []
noncomputable def alikeL : LPlan := .rel [5, 6, 23, 24] [24] SS (fun g x => Inv.upTo g x.i ∧ x.ok) (fun x => Inv.up x.i) (fun x => [(25, .int .i64 ((x.i : Nat) : Int))])
  (fun x => [(0, x.ent), (1, x.ent)])
end Go.Proofs.YtdipeoacmapehaaDoor

set_option linter.unusedSimpArgs false
set_option linter.unusedVariables false
namespace Go.Proofs.YtdipeoacmapehaaDoor
open Go Go.V Go.Fld Go.Pol Go.Cha Go.Bla
set_option maxHeartbeats 0
set_option maxRecDepth 100000

theorem alike_eq (s : List UInt8) (l : List Raw3) (K : AV → Heap → Prop) : walk Tryd.E RC Y5.C (fun f _ => bif f == 5 then alikeL else .unroll 5) 5 5 [.str s, .vecr false 4 l.length (rawsF l)] K = (
 let x0 : List UInt8 := (List.take 60 s)
 let x1 : Nat := (Min.min (List.length l) 10)
 let x2 : Int := ((x1 : Nat) : Int)
 cnd (leB (List.length x0) 1000000)
 ((∃ w0 : SS, ((Inv.upTo [AV.int IntKind.i64 x2] (SS.i w0)) ∧ (SS.ok w0)) ∧ ((AV.vecr Bool.false 4 x1 (rawsF l) = AV.vecr Bool.false 4 x1 (rawsF l)) ∧ ((AV.int IntKind.i64 x2 = AV.int IntKind.i64 x2) ∧ ((AV.int IntKind.i64 0 = AV.int IntKind.i64 (((SS.i w0) : Nat) : Int)) ∧ ((AV.bool Bool.false = AV.bool (SS.has w0)) ∧ ((AV.b8 32 zero32' = AV.b8 32 (SS.ck w0)) ∧ ((AV.u64 0 = AV.u64 (SS.n w0)) ∧ ((AV.b8 32 (nameS x0) = AV.b8 32 (SS.chain w0)) ∧ ((AV.b8 32 (nameS x0) = AV.b8 32 (SS.hash w0)) ∧ ((AV.bool Bool.false = AV.bool (SS.has w0)) ∧ ((AV.b8 32 zero32' = AV.b8 32 (SS.ck w0)) ∧ ((AV.u64 0 = AV.u64 (SS.n w0)) ∧ ((AV.b8 32 (nameS x0) = AV.b8 32 (SS.chain w0)) ∧ ((AV.b8 32 (nameS x0) = AV.b8 32 (SS.hash w0)) ∧ True)))))))))))))) ∧ (∀ w1 : SS, ((Inv.upTo [AV.int IntKind.i64 x2] (SS.i w1)) ∧ (SS.ok w1) → ite2 (ltI (((SS.i w1) : Nat) : Int) x2)
 -- THEN
 (cnd ((inB (((SS.i w1) : Nat) : Int) x1) && Bool.true)
 (ite2 (((Raw3.kind (List.getD l (Int.toNat (((SS.i w1) : Nat) : Int)) raw0)) % 5) == 0)
 -- THEN
 (cnd ((leB (List.length (SS.chain w1)) 64) && (leB (List.length (List.take 40 (Raw3.text (List.getD l (Int.toNat (((SS.i w1) : Nat) : Int)) raw0)))) 100000))
 (cnd ((leB (List.length (SS.chain w1)) 64) && (leB (List.length (List.take 40 (Raw3.text (List.getD l (Int.toNat (((SS.i w1) : Nat) : Int)) raw0)))) 100000))
 (ite2 (Bool.not ((Bool.true && (((key2 (SS.chain w1) (List.take 40 (Raw3.text (List.getD l (Int.toNat (((SS.i w1) : Nat) : Int)) raw0)))) == (key2 (SS.chain w1) (List.take 40 (Raw3.text (List.getD l (Int.toNat (((SS.i w1) : Nat) : Int)) raw0))))) && Bool.true)) && (((key1 (SS.chain w1) (List.take 40 (Raw3.text (List.getD l (Int.toNat (((SS.i w1) : Nat) : Int)) raw0)))) == (key1 (SS.chain w1) (List.take 40 (Raw3.text (List.getD l (Int.toNat (((SS.i w1) : Nat) : Int)) raw0))))) && (((SS.hash w1) == (SS.hash w1)) && Bool.true))))
 -- THEN
 (K (AV.bool Bool.false) [])
 -- ELSE
 ((∃ w2 : SS, ((((fun x => Inv.up (SS.i x)) w2) < ((fun x => Inv.up (SS.i x)) w1)) ∧ ((Inv.upTo [AV.int IntKind.i64 x2] (SS.i w2)) ∧ (SS.ok w2))) ∧ ((AV.vecr Bool.false 4 x1 (rawsF l) = AV.vecr Bool.false 4 x1 (rawsF l)) ∧ ((AV.int IntKind.i64 x2 = AV.int IntKind.i64 x2) ∧ ((AV.int IntKind.i64 (wr IntKind.i64 ((((SS.i w1) : Nat) : Int) + 1)) = AV.int IntKind.i64 (((SS.i w2) : Nat) : Int)) ∧ ((AV.bool Bool.true = AV.bool (SS.has w2)) ∧ ((AV.b8 32 (key2 (SS.chain w1) (List.take 40 (Raw3.text (List.getD l (Int.toNat (((SS.i w1) : Nat) : Int)) raw0)))) = AV.b8 32 (SS.ck w2)) ∧ ((AV.u64 0 = AV.u64 (SS.n w2)) ∧ ((AV.b8 32 (key1 (SS.chain w1) (List.take 40 (Raw3.text (List.getD l (Int.toNat (((SS.i w1) : Nat) : Int)) raw0)))) = AV.b8 32 (SS.chain w2)) ∧ ((AV.b8 32 (SS.hash w1) = AV.b8 32 (SS.hash w2)) ∧ ((AV.bool Bool.true = AV.bool (SS.has w2)) ∧ ((AV.b8 32 (key2 (SS.chain w1) (List.take 40 (Raw3.text (List.getD l (Int.toNat (((SS.i w1) : Nat) : Int)) raw0)))) = AV.b8 32 (SS.ck w2)) ∧ ((AV.u64 0 = AV.u64 (SS.n w2)) ∧ ((AV.b8 32 (key1 (SS.chain w1) (List.take 40 (Raw3.text (List.getD l (Int.toNat (((SS.i w1) : Nat) : Int)) raw0)))) = AV.b8 32 (SS.chain w2)) ∧ ((AV.b8 32 (SS.hash w1) = AV.b8 32 (SS.hash w2)) ∧ True))))))))))))))))))
 -- ELSE
 (ite2 (((Raw3.kind (List.getD l (Int.toNat (((SS.i w1) : Nat) : Int)) raw0)) % 5) == 1)
 -- THEN
 (cnd (leB ((List.length (SS.hash w1)) + (List.length (List.take 40 (Raw3.text (List.getD l (Int.toNat (((SS.i w1) : Nat) : Int)) raw0))))) 1000000)
 (cnd (leB ((List.length (SS.hash w1)) + (List.length (List.take 40 (Raw3.text (List.getD l (Int.toNat (((SS.i w1) : Nat) : Int)) raw0))))) 1000000)
 (ite2 (Bool.not ((((SS.has w1) == (SS.has w1)) && (((SS.ck w1) == (SS.ck w1)) && (((SS.n w1) == (SS.n w1)) && Bool.true))) && (((SS.chain w1) == (SS.chain w1)) && (((Bla.sumS ((SS.hash w1) ++ (List.take 40 (Raw3.text (List.getD l (Int.toNat (((SS.i w1) : Nat) : Int)) raw0))))) == (Bla.sumS ((SS.hash w1) ++ (List.take 40 (Raw3.text (List.getD l (Int.toNat (((SS.i w1) : Nat) : Int)) raw0)))))) && Bool.true))))
 -- THEN
 (K (AV.bool Bool.false) [])
 -- ELSE
 ((∃ w3 : SS, ((((fun x => Inv.up (SS.i x)) w3) < ((fun x => Inv.up (SS.i x)) w1)) ∧ ((Inv.upTo [AV.int IntKind.i64 x2] (SS.i w3)) ∧ (SS.ok w3))) ∧ ((AV.vecr Bool.false 4 x1 (rawsF l) = AV.vecr Bool.false 4 x1 (rawsF l)) ∧ ((AV.int IntKind.i64 x2 = AV.int IntKind.i64 x2) ∧ ((AV.int IntKind.i64 (wr IntKind.i64 ((((SS.i w1) : Nat) : Int) + 1)) = AV.int IntKind.i64 (((SS.i w3) : Nat) : Int)) ∧ ((AV.bool (SS.has w1) = AV.bool (SS.has w3)) ∧ ((AV.b8 32 (SS.ck w1) = AV.b8 32 (SS.ck w3)) ∧ ((AV.u64 (SS.n w1) = AV.u64 (SS.n w3)) ∧ ((AV.b8 32 (SS.chain w1) = AV.b8 32 (SS.chain w3)) ∧ ((AV.b8 32 (Bla.sumS ((SS.hash w1) ++ (List.take 40 (Raw3.text (List.getD l (Int.toNat (((SS.i w1) : Nat) : Int)) raw0))))) = AV.b8 32 (SS.hash w3)) ∧ ((AV.bool (SS.has w1) = AV.bool (SS.has w3)) ∧ ((AV.b8 32 (SS.ck w1) = AV.b8 32 (SS.ck w3)) ∧ ((AV.u64 (SS.n w1) = AV.u64 (SS.n w3)) ∧ ((AV.b8 32 (SS.chain w1) = AV.b8 32 (SS.chain w3)) ∧ ((AV.b8 32 (Bla.sumS ((SS.hash w1) ++ (List.take 40 (Raw3.text (List.getD l (Int.toNat (((SS.i w1) : Nat) : Int)) raw0))))) = AV.b8 32 (SS.hash w3)) ∧ True))))))))))))))))))
 -- ELSE
 (ite2 (((Raw3.kind (List.getD l (Int.toNat (((SS.i w1) : Nat) : Int)) raw0)) % 5) == 2)
 -- THEN
 (cnd ((leB (List.length (SS.chain w1)) 64) && ((leB (List.length (List.take 40 (Raw3.text (List.getD l (Int.toNat (((SS.i w1) : Nat) : Int)) raw0)))) 100000) && (leB (List.length (SS.hash w1)) 64)))
 (cnd ((leB (List.length (SS.chain w1)) 64) && ((leB (List.length (List.take 40 (Raw3.text (List.getD l (Int.toNat (((SS.i w1) : Nat) : Int)) raw0)))) 100000) && (leB (List.length (SS.hash w1)) 64)))
 (ite2 (Bool.not ((Bool.true && (((key3 (SS.chain w1) (List.take 40 (Raw3.text (List.getD l (Int.toNat (((SS.i w1) : Nat) : Int)) raw0)))) == (key3 (SS.chain w1) (List.take 40 (Raw3.text (List.getD l (Int.toNat (((SS.i w1) : Nat) : Int)) raw0))))) && Bool.true)) && (((key1 (SS.chain w1) (List.take 40 (Raw3.text (List.getD l (Int.toNat (((SS.i w1) : Nat) : Int)) raw0)))) == (key1 (SS.chain w1) (List.take 40 (Raw3.text (List.getD l (Int.toNat (((SS.i w1) : Nat) : Int)) raw0))))) && (((Bla.sumS ((SS.hash w1) ++ (key2 (SS.chain w1) (List.take 40 (Raw3.text (List.getD l (Int.toNat (((SS.i w1) : Nat) : Int)) raw0)))))) == (Bla.sumS ((SS.hash w1) ++ (key2 (SS.chain w1) (List.take 40 (Raw3.text (List.getD l (Int.toNat (((SS.i w1) : Nat) : Int)) raw0))))))) && Bool.true))))
 -- THEN
 (K (AV.bool Bool.false) [])
 -- ELSE
 ((∃ w4 : SS, ((((fun x => Inv.up (SS.i x)) w4) < ((fun x => Inv.up (SS.i x)) w1)) ∧ ((Inv.upTo [AV.int IntKind.i64 x2] (SS.i w4)) ∧ (SS.ok w4))) ∧ ((AV.vecr Bool.false 4 x1 (rawsF l) = AV.vecr Bool.false 4 x1 (rawsF l)) ∧ ((AV.int IntKind.i64 x2 = AV.int IntKind.i64 x2) ∧ ((AV.int IntKind.i64 (wr IntKind.i64 ((((SS.i w1) : Nat) : Int) + 1)) = AV.int IntKind.i64 (((SS.i w4) : Nat) : Int)) ∧ ((AV.bool Bool.true = AV.bool (SS.has w4)) ∧ ((AV.b8 32 (key3 (SS.chain w1) (List.take 40 (Raw3.text (List.getD l (Int.toNat (((SS.i w1) : Nat) : Int)) raw0)))) = AV.b8 32 (SS.ck w4)) ∧ ((AV.u64 0 = AV.u64 (SS.n w4)) ∧ ((AV.b8 32 (key1 (SS.chain w1) (List.take 40 (Raw3.text (List.getD l (Int.toNat (((SS.i w1) : Nat) : Int)) raw0)))) = AV.b8 32 (SS.chain w4)) ∧ ((AV.b8 32 (Bla.sumS ((SS.hash w1) ++ (key2 (SS.chain w1) (List.take 40 (Raw3.text (List.getD l (Int.toNat (((SS.i w1) : Nat) : Int)) raw0)))))) = AV.b8 32 (SS.hash w4)) ∧ ((AV.bool Bool.true = AV.bool (SS.has w4)) ∧ ((AV.b8 32 (key3 (SS.chain w1) (List.take 40 (Raw3.text (List.getD l (Int.toNat (((SS.i w1) : Nat) : Int)) raw0)))) = AV.b8 32 (SS.ck w4)) ∧ ((AV.u64 0 = AV.u64 (SS.n w4)) ∧ ((AV.b8 32 (key1 (SS.chain w1) (List.take 40 (Raw3.text (List.getD l (Int.toNat (((SS.i w1) : Nat) : Int)) raw0)))) = AV.b8 32 (SS.chain w4)) ∧ ((AV.b8 32 (Bla.sumS ((SS.hash w1) ++ (key2 (SS.chain w1) (List.take 40 (Raw3.text (List.getD l (Int.toNat (((SS.i w1) : Nat) : Int)) raw0)))))) = AV.b8 32 (SS.hash w4)) ∧ True))))))))))))))))))
 -- ELSE
 (cnd ((leB (List.length (SS.hash w1)) 200) && ((leB (List.length (List.take 40 (Raw3.text (List.getD l (Int.toNat (((SS.i w1) : Nat) : Int)) raw0)))) 800) && (symK (SS.has w1) (SS.ck w1) (SS.n w1))))
 (cnd (Bool.true && ((Bool.true && (Bool.true && (leB (0 + (List.length (symS (SS.has w1) (SS.ck w1) (SS.n w1) (SS.hash w1) (List.take 40 (Raw3.text (List.getD l (Int.toNat (((SS.i w1) : Nat) : Int)) raw0)))))) (List.length (symS (SS.has w1) (SS.ck w1) (SS.n w1) (SS.hash w1) (List.take 40 (Raw3.text (List.getD l (Int.toNat (((SS.i w1) : Nat) : Int)) raw0)))))))) && Bool.true))
 (cnd ((leB (List.length (SS.hash w1)) 200) && ((leB (List.length (List.take (List.length (symS (SS.has w1) (SS.ck w1) (SS.n w1) (SS.hash w1) (List.take 40 (Raw3.text (List.getD l (Int.toNat (((SS.i w1) : Nat) : Int)) raw0))))) (List.drop 0 (symS (SS.has w1) (SS.ck w1) (SS.n w1) (SS.hash w1) (List.take 40 (Raw3.text (List.getD l (Int.toNat (((SS.i w1) : Nat) : Int)) raw0))))))) 800) && ((symK (SS.has w1) (SS.ck w1) (SS.n w1)) && (symB (SS.has w1) (SS.ck w1) (SS.n w1) (SS.hash w1) (List.take (List.length (symS (SS.has w1) (SS.ck w1) (SS.n w1) (SS.hash w1) (List.take 40 (Raw3.text (List.getD l (Int.toNat (((SS.i w1) : Nat) : Int)) raw0))))) (List.drop 0 (symS (SS.has w1) (SS.ck w1) (SS.n w1) (SS.hash w1) (List.take 40 (Raw3.text (List.getD l (Int.toNat (((SS.i w1) : Nat) : Int)) raw0))))))))))
 (cnd (Bool.true && (leB (0 + (List.length (symO (SS.has w1) (SS.ck w1) (SS.n w1) (List.take (List.length (symS (SS.has w1) (SS.ck w1) (SS.n w1) (SS.hash w1) (List.take 40 (Raw3.text (List.getD l (Int.toNat (((SS.i w1) : Nat) : Int)) raw0))))) (List.drop 0 (symS (SS.has w1) (SS.ck w1) (SS.n w1) (SS.hash w1) (List.take 40 (Raw3.text (List.getD l (Int.toNat (((SS.i w1) : Nat) : Int)) raw0))))))))) (List.length (symO (SS.has w1) (SS.ck w1) (SS.n w1) (List.take (List.length (symS (SS.has w1) (SS.ck w1) (SS.n w1) (SS.hash w1) (List.take 40 (Raw3.text (List.getD l (Int.toNat (((SS.i w1) : Nat) : Int)) raw0))))) (List.drop 0 (symS (SS.has w1) (SS.ck w1) (SS.n w1) (SS.hash w1) (List.take 40 (Raw3.text (List.getD l (Int.toNat (((SS.i w1) : Nat) : Int)) raw0))))))))))
 (ite2 (cond Bool.false Bool.true ((List.take (List.length (symO (SS.has w1) (SS.ck w1) (SS.n w1) (List.take (List.length (symS (SS.has w1) (SS.ck w1) (SS.n w1) (SS.hash w1) (List.take 40 (Raw3.text (List.getD l (Int.toNat (((SS.i w1) : Nat) : Int)) raw0))))) (List.drop 0 (symS (SS.has w1) (SS.ck w1) (SS.n w1) (SS.hash w1) (List.take 40 (Raw3.text (List.getD l (Int.toNat (((SS.i w1) : Nat) : Int)) raw0)))))))) (List.drop 0 (symO (SS.has w1) (SS.ck w1) (SS.n w1) (List.take (List.length (symS (SS.has w1) (SS.ck w1) (SS.n w1) (SS.hash w1) (List.take 40 (Raw3.text (List.getD l (Int.toNat (((SS.i w1) : Nat) : Int)) raw0))))) (List.drop 0 (symS (SS.has w1) (SS.ck w1) (SS.n w1) (SS.hash w1) (List.take 40 (Raw3.text (List.getD l (Int.toNat (((SS.i w1) : Nat) : Int)) raw0))))))))) != (List.take 40 (Raw3.text (List.getD l (Int.toNat (((SS.i w1) : Nat) : Int)) raw0)))))
 -- THEN
 (K (AV.bool Bool.false) [])
 -- ELSE
 (ite2 (Bool.not ((((SS.has w1) == (SS.has w1)) && (((SS.ck w1) == (SS.ck w1)) && (((symN (SS.has w1) (SS.n w1)) == (symN (SS.has w1) (SS.n w1))) && Bool.true))) && (((SS.chain w1) == (SS.chain w1)) && (((Bla.sumS ((SS.hash w1) ++ (symS (SS.has w1) (SS.ck w1) (SS.n w1) (SS.hash w1) (List.take 40 (Raw3.text (List.getD l (Int.toNat (((SS.i w1) : Nat) : Int)) raw0)))))) == (Bla.sumS ((SS.hash w1) ++ (List.take (List.length (symS (SS.has w1) (SS.ck w1) (SS.n w1) (SS.hash w1) (List.take 40 (Raw3.text (List.getD l (Int.toNat (((SS.i w1) : Nat) : Int)) raw0))))) (List.drop 0 (symS (SS.has w1) (SS.ck w1) (SS.n w1) (SS.hash w1) (List.take 40 (Raw3.text (List.getD l (Int.toNat (((SS.i w1) : Nat) : Int)) raw0))))))))) && Bool.true))))
 -- THEN
 (K (AV.bool Bool.false) [])
 -- ELSE
 ((∃ w5 : SS, ((((fun x => Inv.up (SS.i x)) w5) < ((fun x => Inv.up (SS.i x)) w1)) ∧ ((Inv.upTo [AV.int IntKind.i64 x2] (SS.i w5)) ∧ (SS.ok w5))) ∧ ((AV.vecr Bool.false 4 x1 (rawsF l) = AV.vecr Bool.false 4 x1 (rawsF l)) ∧ ((AV.int IntKind.i64 x2 = AV.int IntKind.i64 x2) ∧ ((AV.int IntKind.i64 (wr IntKind.i64 ((((SS.i w1) : Nat) : Int) + 1)) = AV.int IntKind.i64 (((SS.i w5) : Nat) : Int)) ∧ ((AV.bool (SS.has w1) = AV.bool (SS.has w5)) ∧ ((AV.b8 32 (SS.ck w1) = AV.b8 32 (SS.ck w5)) ∧ ((AV.u64 (symN (SS.has w1) (SS.n w1)) = AV.u64 (SS.n w5)) ∧ ((AV.b8 32 (SS.chain w1) = AV.b8 32 (SS.chain w5)) ∧ ((AV.b8 32 (Bla.sumS ((SS.hash w1) ++ (symS (SS.has w1) (SS.ck w1) (SS.n w1) (SS.hash w1) (List.take 40 (Raw3.text (List.getD l (Int.toNat (((SS.i w1) : Nat) : Int)) raw0)))))) = AV.b8 32 (SS.hash w5)) ∧ ((AV.bool (SS.has w1) = AV.bool (SS.has w5)) ∧ ((AV.b8 32 (SS.ck w1) = AV.b8 32 (SS.ck w5)) ∧ ((AV.u64 (symN (SS.has w1) (SS.n w1)) = AV.u64 (SS.n w5)) ∧ ((AV.b8 32 (SS.chain w1) = AV.b8 32 (SS.chain w5)) ∧ ((AV.b8 32 (Bla.sumS ((SS.hash w1) ++ (List.take (List.length (symS (SS.has w1) (SS.ck w1) (SS.n w1) (SS.hash w1) (List.take 40 (Raw3.text (List.getD l (Int.toNat (((SS.i w1) : Nat) : Int)) raw0))))) (List.drop 0 (symS (SS.has w1) (SS.ck w1) (SS.n w1) (SS.hash w1) (List.take 40 (Raw3.text (List.getD l (Int.toNat (((SS.i w1) : Nat) : Int)) raw0)))))))) = AV.b8 32 (SS.hash w5)) ∧ True)))))))))))))))))))))))))
 -- ELSE
 (cnd (leB (List.length (SS.chain w1)) 64)
 (cnd (leB (List.length (SS.chain w1)) 64)
 (ite2 ((Bool.true && (((key1 (SS.chain w1) []) == (key1 (SS.chain w1) [])) && Bool.true)) && ((Bool.true && (((key2 (SS.chain w1) []) == (key2 (SS.chain w1) [])) && Bool.true)) && Bool.true))
 -- THEN
 (K (AV.bool (cond Bool.true ((nameS (Array.toList (ByteArray.data (ByteArray.mk (List.toArray [97]))))) == (List.set [0, 0, 0, 0, 0, 0, 0, 0, 0, 0, 0, 0, 0, 0, 0, 0, 0, 0, 0, 0, 0, 0, 0, 0, 0, 0, 0, 0, 0, 0, 0, 0] 0 97)) Bool.false)) [])
 -- ELSE
 (K (AV.bool Bool.false) [])))))))) := by kernel_rfl

end Go.Proofs.YtdipeoacmapehaaDoor

set_option linter.unusedSimpArgs false
set_option linter.unusedVariables false
namespace Go.Proofs.YtdipeoacmapehaaDoor
open Go Go.V Go.Fld Go.Pol Go.Cha Go.Bla
set_option maxRecDepth 100000
theorem length_sum (b : List UInt8) : (sumS b).length = 32 := length_sumS b
theorem length_nameS (s : List UInt8) : (nameS s).length = 32 := by
  rw [nameS_eq]
  unfold nameF
  cases h : ltB 32 s.length with
  | true => exact length_sumS s
  | false =>
    have := of_ltB_no h
    rw [cond_false, List.length_append, List.length_take, List.length_drop, show zero32'.length = 32 from rfl]; omega
theorem alike_one (x : SS) (b : List UInt8) (hi : x.i ≤ 10) (hb : b.length ≤ 40) (hx : x.ok) :
    symK x.has x.ck x.n = true ∧ symB x.has x.ck x.n x.hash (symS x.has x.ck x.n x.hash b) = true ∧ symO x.has x.ck x.n (symS x.has x.ck x.n x.hash b) = b ∧ (symS x.has x.ck x.n x.hash b).length ≤ 56 ∧
      ((x.has = true ∧ (symN x.has x.n).toNat ≤ x.i + 1) ∨ (x.has = false ∧ x.ck = zero32' ∧ symN x.has x.n = 0)) := by
  rw [symK_eq, symB_eq, symO_eq, symS_eq, symN_eq]
  obtain ⟨_, _, h | h⟩ := hx
  · obtain ⟨h1, h2⟩ := h
    rw [h1]
    have hl := length_sealS x.ck (cnonceS x.n) x.hash b
    refine ⟨?_, ?_, ?_, ?_, .inl ⟨rfl, ?_⟩⟩
    · show (!maxB x.n) = true
      unfold maxB
      rw [beq_false_of_ne (by omega)]; rfl
    · show (leB 16 (sealS x.ck (cnonceS x.n) x.hash b).length && !(badS x.ck (cnonceS x.n) x.hash (sealS x.ck (cnonceS x.n) x.hash b))) = true
      rw [bad_seal, leB_of (by omega)]; rfl
    · exact plain_seal _ _ _ _
    · show (sealS x.ck (cnonceS x.n) x.hash b).length ≤ _; omega
    · show (x.n + 1).toNat ≤ _
      rw [UInt64.toNat_add, show (1 : UInt64).toNat = 1 from rfl]; omega
  · obtain ⟨h1, h2, h3⟩ := h
    rw [h1]
    refine ⟨?_, rfl, rfl, ?_, .inr ⟨rfl, h2, h3⟩⟩
    · show nilC x.ck x.n = true
      rw [h2, h3, nilC_eq]; rfl
    · show b.length ≤ _; omega

theorem symAlike_c (s : List UInt8) (_hs : s.length ≤ maxLen) (l : List Raw3) (_hl : l.length ≤ maxLen ∧ ∀ r ∈ l, r.ok) :
    HCall Tryd.E 5 [.str s, .vecr false 4 l.length (rawsF l)] (.ret (.bool true) []) := by
  refine HCall.of_walk (R := RC) (T := Y5) (fun f _ => bif f == 5 then alikeL else .unroll 5) 5 rfl rfl ?_
  rw [alike_eq]
  dsimp only
  have hx0 : (s.take 60).length ≤ 60 := by rw [List.length_take]; omega
  rw [leB_of (by omega)]
  refine ⟨⟨⟨0, false, zero32', 0, nameS (s.take 60), nameS (s.take 60)⟩, ⟨by rw [Inv.upTo_int]; show (0 : Int) ≤ _; omega, length_nameS _, length_nameS _, .inr ⟨rfl, rfl, rfl⟩⟩, ?_⟩, fun x hx => ?_⟩
  · repeat' apply And.intro
    all_goals first | rfl | trivial
  obtain ⟨hi, hok⟩ := hx
  rw [Inv.upTo_int] at hi
  have hi10 : x.i ≤ 10 := by omega
  have hc := hok.1
  have hh := hok.2.1
  have hw2 : wr .i64 ((x.i : Int) + 1) = ((x.i + 1 : Nat) : Int) := by rw [wr_of (by omega) (by omega)]; rfl
  rcases Nat.lt_or_ge x.i (min l.length 10) with hlt | hge
  · rw [ltI_of (by omega), ite2_true, inB_of (by omega) (by omega), hw2]
    generalize hr : l.getD (Int.toNat ((x.i : Nat) : Int)) raw0 = r
    have hb : (r.text.take 40).length ≤ 40 := by rw [List.length_take]; omega
    generalize r.text.take 40 = b at *
    obtain ⟨a1, a2, a3, a4, a5⟩ := alike_one x b hi10 hb hok
    have f1 : leB b.length 100000 = true := leB_of (by omega)
    have f2 : leB (32 + b.length) 1000000 = true := leB_of (by omega)
    have f3 : leB b.length 800 = true := leB_of (by omega)
    have f4 : leB (symS x.has x.ck x.n x.hash b).length 800 = true := leB_of (by omega)
    have f5 : leB (0 + (symS x.has x.ck x.n x.hash b).length) (symS x.has x.ck x.n x.hash b).length = true := leB_of (by omega)
    have f6 : leB (0 + b.length) b.length = true := leB_of (by omega)
    have f7 : leB 32 64 = true := leB_of (by omega)
    have f8 : leB 32 200 = true := leB_of (by omega)
    simp only [all8, a1, a2, a3, hc, hh, f1, f2, f3, f4, f5, f6, f7, f8, beq_self_eq_true, bne_self_eq_false, Bool.and_true, Bool.true_and, Bool.and_self, Bool.not_true, ite2_false, cond_false, cnd_eq, true_and]
    have done : ∀ (y : SS), y.i = x.i + 1 → y.ok → (Inv.up y.i < Inv.up x.i ∧ Inv.upTo [AV.int IntKind.i64 ((min l.length 10 : Nat) : Int)] y.i ∧ y.ok) := fun y h1 h2 => by
      rw [h1, Inv.upTo_int]
      exact ⟨Inv.up_lt (by omega), by omega, h2⟩
    refine ite2_iff.2 ⟨fun _ => ⟨⟨x.i + 1, true, key2 x.chain b, 0, key1 x.chain b, x.hash⟩, done _ rfl ⟨length_key1 _ _, hh, .inl ⟨rfl, Nat.zero_le _⟩⟩, ?_⟩, fun _ => ?_⟩
    · repeat' apply And.intro
      all_goals first | rfl | trivial
    refine ite2_iff.2 ⟨fun _ => ⟨⟨x.i + 1, x.has, x.ck, x.n, x.chain, sumS (x.hash ++ b)⟩, done _ rfl ⟨hc, length_sum _, ?_⟩, ?_⟩, fun _ => ?_⟩
    · rcases hok.2.2 with ⟨h1, h2⟩ | h
      · exact .inl ⟨h1, Nat.le_succ_of_le h2⟩
      · exact .inr h
    · repeat' apply And.intro
      all_goals first | rfl | trivial
    refine ite2_iff.2 ⟨fun _ => ⟨⟨x.i + 1, true, key3 x.chain b, 0, key1 x.chain b, sumS (x.hash ++ key2 x.chain b)⟩, done _ rfl ⟨length_key1 _ _, length_sum _, .inl ⟨rfl, Nat.zero_le _⟩⟩, ?_⟩, fun _ => ?_⟩
    · repeat' apply And.intro
      all_goals first | rfl | trivial
    refine ⟨⟨x.i + 1, x.has, x.ck, symN x.has x.n, x.chain, sumS (x.hash ++ symS x.has x.ck x.n x.hash b)⟩, done _ rfl ⟨hc, length_sum _, a5⟩, ?_⟩
    repeat' apply And.intro
    all_goals first | rfl | trivial
  · rw [ltI_no (by omega), ite2_false, hc, leB_of (by omega)]
    simp only [beq_self_eq_true, Bool.and_true, Bool.and_self]
    have hn : nameS [97] = List.set zero32' 0 97 := by rw [nameS_eq]; rfl
    rw [hn]
    exact ⟨rfl, rfl⟩
end Go.Proofs.YtdipeoacmapehaaDoor
