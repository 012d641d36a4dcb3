import Derived.Test.YtfpladpbnbpehaaZzae
import Derived.Test.YtfpladpbnbpehaaZzaf
import Derived.Test.YtfpladpbnbpehaaZzag
import Derived.Test.YtfpladpbnbpehaaZzad
import Derived.Test.YtfpladpbnbpehaaZzai
import Derived.Test.YtfpladpbnbpehaaZzab
set_option linter.unusedSimpArgs false
set_option linter.unusedVariables false
namespace Go.Proofs.Ytfpladpbnbpehaa
open Go Go.V
set_option maxHeartbeats 0
set_option maxRecDepth 100000

theorem ucut_eq (s : List UInt8) (m : Int) (K : AV → Heap → Prop) : walk Try.E (ROps.rows Try.E) (Ctr.nil Try.E).C (fun _ _ => .unroll 17) 5 27 [.str s, .int .i64 m] K = (
 let x0 : Nat := (List.length s)
 let x1 : Int := ((x0 : Nat) : Int)
 cnd (sliceOk Option.none (Option.some (cond Bool.false (Max.max x1 m) (Min.min x1 m))) x0)
 (K (AV.str (sliceL Option.none (Option.some (cond Bool.false (Max.max x1 m) (Min.min x1 m))) s)) [])) := by kernel_rfl

end Go.Proofs.Ytfpladpbnbpehaa

set_option linter.unusedSimpArgs false
set_option linter.unusedVariables false
namespace Go.Proofs.Ytfpladpbnbpehaa
open Go Go.V
set_option maxRecDepth 100000
theorem ucut_c (s : List UInt8) (m : Int) (hm : 0 ≤ m) : HCall Try.E 27 [.str s, .int .i64 m] (.ret (.str (s.take m.toNat)) []) := by
  refine HCall.of_walk (R := ROps.rows Try.E) (T := Ctr.nil Try.E) (fun _ _ => .unroll 17) 5 rfl rfl ?_
  rw [ucut_eq]
  dsimp only
  rw [ucutOk _ _ hm, ucutL _ _ hm]
  exact ⟨rfl, rfl⟩
noncomputable def Ucut : Ctr Try.E := (Ctr.nil Try.E).add 27 (fun
    | [.str s, .int .i64 m] => some (nnB m, .ret (.str (s.take m.toNat)) [])
    | _ => none) (by
      intro args pre out h hp
      split at h
      · simp only [Option.some.injEq, Prod.mk.injEq] at h
        obtain ⟨rfl, rfl⟩ := h
        exact ucut_c _ _ (nnB_iff.1 hp)
      · simp at h)
end Go.Proofs.Ytfpladpbnbpehaa

set_option linter.unusedSimpArgs false
set_option linter.unusedVariables false
namespace Go.Proofs.Ytfpladpbnbpehaa
open Go Go.V
set_option maxHeartbeats 0
set_option maxRecDepth 100000

theorem usome_eq (full : Bool) (n : Nat) (f : Nat → List AV) (m : Int) (K : AV → Heap → Prop) : walk Try.E (ROps.rows Try.E) (Ctr.nil Try.E).C (fun _ _ => .unroll 17) 5 26 [.vecr full 4 n f, .int .i64 m] K = (
 let x0 : Int := ((n : Nat) : Int)
 cnd (Bool.true && (sliceOk Option.none (Option.some (cond Bool.false (Max.max x0 m) (Min.min x0 m))) n))
 (K (AV.vecr (full && Bool.false) 4 ((hiN n (Option.some (cond Bool.false (Max.max x0 m) (Min.min x0 m)))) - 0) (fun i => f ((loN Option.none) + i))) [])) := by kernel_rfl

end Go.Proofs.Ytfpladpbnbpehaa

set_option linter.unusedSimpArgs false
set_option linter.unusedVariables false
namespace Go.Proofs.Ytfpladpbnbpehaa
open Go Go.V
set_option maxRecDepth 100000
theorem usome_c (full : Bool) (n : Nat) (f : Nat → List AV) (m : Int) (hm : 0 ≤ m) : HCall Try.E 26 [.vecr full 4 n f, .int .i64 m] (.ret (.vecr false 4 (min n m.toNat) f) []) := by
  refine HCall.of_walk (R := ROps.rows Try.E) (T := Ctr.nil Try.E) (fun _ _ => .unroll 17) 5 rfl rfl ?_
  rw [usome_eq]
  dsimp only
  have e3 : (fun i => f (loN none + i)) = f := by
    funext i
    show f (0 + i) = f i
    rw [Nat.zero_add]
  rw [usomeOk n m hm, usomeN n m hm, e3, Bool.and_false]
  exact ⟨rfl, rfl⟩
noncomputable def Usome : Ctr Try.E := (Ctr.nil Try.E).add 26 (fun
    | [.vecr _ 4 n f, .int .i64 m] => some (nnB m, .ret (.vecr false 4 (min n m.toNat) f) [])
    | _ => none) (by
      intro args pre out h hp
      split at h
      · simp only [Option.some.injEq, Prod.mk.injEq] at h
        obtain ⟨rfl, rfl⟩ := h
        exact usome_c _ _ _ _ (nnB_iff.1 hp)
      · simp at h)
end Go.Proofs.Ytfpladpbnbpehaa

set_option linter.unusedSimpArgs false
set_option linter.unusedVariables false
namespace Go.Proofs.Ytfpladpbnbpehaa
open Go Go.V
set_option maxRecDepth 100000
theorem upicked_w (n m : Int) (K : AV → Heap → Prop) : walk Try.E (ROps.rows Try.E) (Ctr.nil Try.E).C (fun _ _ => .unroll 6) 3 11 [.int .i64 n, .int .i64 m] K =
    cnd (m != 0) (ite2 (ltI (n.tmod m) 0) (K (.int .i64 (wr .i64 (n.tmod m + m))) []) (K (.int .i64 (n.tmod m)) [])) := by kernel_rfl
theorem upicked_c (n m : Int) (h1 : 0 < m) (h2 : m ≤ 9223372036854775807) : HCall Try.E 11 [.int .i64 n, .int .i64 m] (.ret (.int .i64 (n % m)) []) := by
  refine HCall.of_walk (R := ROps.rows Try.E) (T := Ctr.nil Try.E) (fun _ _ => .unroll 6) 3 rfl rfl ?_
  rw [upicked_w, cnd_eq, ltI_eq, wr_eq]
  refine ⟨by simp; omega, ?_⟩
  have e := pick_val (n := n) h1
  have h6 := Int.emod_nonneg n (show m ≠ 0 by omega)
  have h7 := Int.emod_lt_of_pos n h1
  rw [ite2_eq]
  refine ⟨fun h => ?_, fun h => ?_⟩
  · rw [if_pos (of_decide_eq_true h)] at e
    rw [e, wrapI (by omega) (by omega)]; exact ⟨rfl, rfl⟩
  · rw [if_neg (of_decide_eq_false h)] at e
    rw [e]; exact ⟨rfl, rfl⟩
noncomputable def Upicked : Ctr Try.E := (Ctr.nil Try.E).add 11 (fun
    | [.int .i64 n, .int .i64 m] => some (decide (0 < m) && decide (m ≤ 9223372036854775807), .ret (.int .i64 (n % m)) [])
    | _ => none) (by
      intro args pre out h hp
      split at h
      · simp only [Option.some.injEq, Prod.mk.injEq] at h
        obtain ⟨rfl, rfl⟩ := h
        simp only [Bool.and_eq_true, decide_eq_true_eq] at hp
        exact upicked_c _ _ hp.1 hp.2
      · simp at h)
end Go.Proofs.Ytfpladpbnbpehaa

set_option linter.unusedSimpArgs false
set_option linter.unusedVariables false
namespace Go.Proofs.Ytfpladpbnbpehaa
open Go Go.V Go.Pin
noncomputable def R1 : ROps Try.E := ROps.cold0 Try.E
noncomputable def P0 : Ctr Try.E := Ctr.or Ucut (Ctr.or Usome Upicked)
end Go.Proofs.Ytfpladpbnbpehaa

set_option linter.unusedSimpArgs false
set_option linter.unusedVariables false
namespace Go.Proofs.Ytfpladpbnbpehaa
open Go Go.V Go.Pin
set_option maxHeartbeats 0
set_option maxRecDepth 100000

theorem pname_eq (s : List UInt8) (K : AV → Heap → Prop) : walk Try.E R1 P0.C (fun _ _ => .unroll 2) 5 30 [.str s] K = (
 let x0 : Int := (((List.length s) : Nat) : Int)
 ite2 (Bool.not (ltI x0 1))
 -- THEN
 (K (AV.bool (cond Bool.true (Bool.not (ltI 16 x0)) Bool.false)) [])
 -- ELSE
 (K (AV.bool Bool.false) [])) := by kernel_rfl

end Go.Proofs.Ytfpladpbnbpehaa

set_option linter.unusedSimpArgs false
set_option linter.unusedVariables false
namespace Go.Proofs.Ytfpladpbnbpehaa
open Go Go.V Go.Pin
set_option maxRecDepth 100000
theorem pname_c (s : List UInt8) : HCall Try.E 30 [.str s] (.ret (.bool (nameOk s)) []) := by
  refine HCall.of_walk (R := R1) (T := P0) (fun _ _ => .unroll 2) 5 rfl rfl ?_
  rw [pname_eq]
  dsimp only
  refine ite2_iff.2 ⟨fun h => ⟨?_, rfl⟩, fun h => ⟨?_, rfl⟩⟩
  · have h : 1 ≤ s.length := by
      have := of_ltI_no (by simpa using h); omega
    unfold nameOk
    rw [leB_of h, cond_true, Bool.true_and]
    rcases Nat.lt_or_ge 16 s.length with k | k
    · rw [ltI_of (by omega), leB_no k]; rfl
    · rw [ltI_no (by omega), leB_of k]; rfl
  · have h : s.length < 1 := by
      have := of_ltI (by simpa using h); omega
    unfold nameOk
    rw [leB_no h]; rfl
noncomputable def P1 : Ctr Try.E := P0.add 30 (fun
    | [.str s] => some (true, .ret (.bool (nameOk s)) [])
    | _ => none) (by
      intro args pre out h hp
      split at h
      · simp only [Option.some.injEq, Prod.mk.injEq] at h
        obtain ⟨rfl, rfl⟩ := h
        exact pname_c _
      · simp at h)
noncomputable def checkL (L : List Pn) : LPlan := .mv [0, 8, 9] [9] Nat (fun g i => Inv.upTo g i ∧ ∀ j, j < i → pinOk L j = true) Inv.up (fun _ => []) (fun _ i => [(10, .int .i64 ((i : Nat) : Int))]) (fun _ _ => []) (fun _ => [])
noncomputable def searchL (L : List Pn) (s : List UInt8) : LPlan := .mv [0, 1] [] (Nat × Nat) (fun _ x => x.1 ≤ posP L s ∧ posP L s ≤ x.2 ∧ x.2 ≤ L.length) (fun x => x.2 - x.1) (fun _ => []) (fun _ x => [(5, .int .i64 ((x.1 : Nat) : Int)), (6, .int .i64 ((x.2 : Nat) : Int))]) (fun _ _ => []) (fun _ => [])
end Go.Proofs.Ytfpladpbnbpehaa

set_option linter.unusedSimpArgs false
set_option linter.unusedVariables false
namespace Go.Proofs.Ytfpladpbnbpehaa
open Go Go.V Go.Pin
set_option maxHeartbeats 0
set_option maxRecDepth 100000

theorem pcheck_eq (full : Bool) (L : List Pn) (K : AV → Heap → Prop) : walk Try.E R1 P1.C (fun _ _ => checkL L) 5 22 [.vecr full 34 L.length (pcs L)] K = (
 let x0 : Nat := (List.length L)
 let x1 : Int := ((x0 : Nat) : Int)
 let x2 : Bool := (full || (Bool.not full)) && Bool.true
 ite2 (ltI 8 x1)
 -- THEN
 (K (AV.int IntKind.i64 1) [])
 -- ELSE
 ((∃ w0 : Nat, ((Inv.upTo [AV.int IntKind.i64 x1] w0) ∧ (∀ w1 : Nat, (w1 < w0 → (Pin.pinOk L w1 = Bool.true)))) ∧ cnd (x2)
 ((x0 = x0) ∧ ((∀ w2 : Nat, (w2 < x0 → leR [AV.str (Pin.Pn.name (List.getD L w2 Pin.pn0)), AV.b8 32 (Pin.Pn.key (List.getD L w2 Pin.pn0)), AV.bool (Pin.Pn.gone (List.getD L w2 Pin.pn0))] [AV.str (Pin.Pn.name (List.getD L w2 Pin.pn0)), AV.b8 32 (Pin.Pn.key (List.getD L w2 Pin.pn0)), AV.bool (Pin.Pn.gone (List.getD L w2 Pin.pn0))])) ∧ cnd (x2)
 ((x0 = x0) ∧ ((∀ w3 : Nat, (w3 < x0 → leR [AV.str (Pin.Pn.name (List.getD L w3 Pin.pn0)), AV.b8 32 (Pin.Pn.key (List.getD L w3 Pin.pn0)), AV.bool (Pin.Pn.gone (List.getD L w3 Pin.pn0))] [AV.str (Pin.Pn.name (List.getD L w3 Pin.pn0)), AV.b8 32 (Pin.Pn.key (List.getD L w3 Pin.pn0)), AV.bool (Pin.Pn.gone (List.getD L w3 Pin.pn0))])) ∧ ((AV.int IntKind.i64 x1 = AV.int IntKind.i64 x1) ∧ ((AV.int IntKind.i64 0 = AV.int IntKind.i64 ((w0 : Nat) : Int)) ∧ True))))))) ∧ (∀ w4 : Nat, ((Inv.upTo [AV.int IntKind.i64 x1] w4) ∧ (∀ w5 : Nat, (w5 < w4 → (Pin.pinOk L w5 = Bool.true))) → ite2 (ltI ((w4 : Nat) : Int) x1)
 -- THEN
 (cnd ((inB ((w4 : Nat) : Int) x0) && Bool.true)
 (ite2 (Bool.not (Pin.nameOk (Pin.Pn.name (List.getD L (Int.toNat ((w4 : Nat) : Int)) Pin.pn0))))
 -- THEN
 (K (AV.int IntKind.i64 9) [])
 -- ELSE
 (ite2 (ltI 0 ((w4 : Nat) : Int))
 -- THEN
 (cnd ((inB (wr IntKind.i64 (subI ((w4 : Nat) : Int) 1)) x0) && Bool.true)
 (ite2 (cond Bool.false Bool.true (cond Bool.true (Bool.not (Op.bytesLess (Pin.Pn.name (List.getD L (Int.toNat (wr IntKind.i64 (subI ((w4 : Nat) : Int) 1))) Pin.pn0)) (Pin.Pn.name (List.getD L (Int.toNat ((w4 : Nat) : Int)) Pin.pn0)))) Bool.false))
 -- THEN
 (K (AV.int IntKind.i64 9) [])
 -- ELSE
 ((∃ w6 : Nat, (((Inv.up w6) < (Inv.up w4)) ∧ ((Inv.upTo [AV.int IntKind.i64 x1] w6) ∧ (∀ w7 : Nat, (w7 < w6 → (Pin.pinOk L w7 = Bool.true))))) ∧ cnd (x2)
 ((x0 = x0) ∧ ((∀ w8 : Nat, (w8 < x0 → leR [AV.str (Pin.Pn.name (List.getD L w8 Pin.pn0)), AV.b8 32 (Pin.Pn.key (List.getD L w8 Pin.pn0)), AV.bool (Pin.Pn.gone (List.getD L w8 Pin.pn0))] [AV.str (Pin.Pn.name (List.getD L w8 Pin.pn0)), AV.b8 32 (Pin.Pn.key (List.getD L w8 Pin.pn0)), AV.bool (Pin.Pn.gone (List.getD L w8 Pin.pn0))])) ∧ cnd (x2)
 ((x0 = x0) ∧ ((∀ w9 : Nat, (w9 < x0 → leR [AV.str (Pin.Pn.name (List.getD L w9 Pin.pn0)), AV.b8 32 (Pin.Pn.key (List.getD L w9 Pin.pn0)), AV.bool (Pin.Pn.gone (List.getD L w9 Pin.pn0))] [AV.str (Pin.Pn.name (List.getD L w9 Pin.pn0)), AV.b8 32 (Pin.Pn.key (List.getD L w9 Pin.pn0)), AV.bool (Pin.Pn.gone (List.getD L w9 Pin.pn0))])) ∧ ((AV.int IntKind.i64 x1 = AV.int IntKind.i64 x1) ∧ ((AV.int IntKind.i64 (wr IntKind.i64 (((w4 : Nat) : Int) + 1)) = AV.int IntKind.i64 ((w6 : Nat) : Int)) ∧ True))))))))))
 -- ELSE
 ((∃ w10 : Nat, (((Inv.up w10) < (Inv.up w4)) ∧ ((Inv.upTo [AV.int IntKind.i64 x1] w10) ∧ (∀ w11 : Nat, (w11 < w10 → (Pin.pinOk L w11 = Bool.true))))) ∧ cnd (x2)
 ((x0 = x0) ∧ ((∀ w12 : Nat, (w12 < x0 → leR [AV.str (Pin.Pn.name (List.getD L w12 Pin.pn0)), AV.b8 32 (Pin.Pn.key (List.getD L w12 Pin.pn0)), AV.bool (Pin.Pn.gone (List.getD L w12 Pin.pn0))] [AV.str (Pin.Pn.name (List.getD L w12 Pin.pn0)), AV.b8 32 (Pin.Pn.key (List.getD L w12 Pin.pn0)), AV.bool (Pin.Pn.gone (List.getD L w12 Pin.pn0))])) ∧ cnd (x2)
 ((x0 = x0) ∧ ((∀ w13 : Nat, (w13 < x0 → leR [AV.str (Pin.Pn.name (List.getD L w13 Pin.pn0)), AV.b8 32 (Pin.Pn.key (List.getD L w13 Pin.pn0)), AV.bool (Pin.Pn.gone (List.getD L w13 Pin.pn0))] [AV.str (Pin.Pn.name (List.getD L w13 Pin.pn0)), AV.b8 32 (Pin.Pn.key (List.getD L w13 Pin.pn0)), AV.bool (Pin.Pn.gone (List.getD L w13 Pin.pn0))])) ∧ ((AV.int IntKind.i64 x1 = AV.int IntKind.i64 x1) ∧ ((AV.int IntKind.i64 (wr IntKind.i64 (((w4 : Nat) : Int) + 1)) = AV.int IntKind.i64 ((w10 : Nat) : Int)) ∧ True)))))))))))
 -- ELSE
 (K (AV.int IntKind.i64 0) []))))) := by kernel_rfl

theorem pfind_eq (full : Bool) (L : List Pn) (s : List UInt8) (K : AV → Heap → Prop) : walk Try.E R1 P1.C (fun f _ => bif f == 35 then searchL L s else .unroll 2) 5 29 [.vecr full 34 L.length (pcs L), .str s] K = (
 let x0 : Nat := (Pin.posP L s)
 let x1 : Nat := (List.length L)
 let x2 : Int := ((x1 : Nat) : Int)
 let x3 : Int := 18446744073709551616
(∃ w0 : Nat × Nat, (((Prod.fst w0) ≤ x0) ∧ ((x0 ≤ (Prod.snd w0)) ∧ ((Prod.snd w0) ≤ x1))) ∧ ((AV.int IntKind.i64 x2 = AV.int IntKind.i64 x2) ∧ ((AV.fn (Fn.func 36) [] [AV.ptr 0 0, AV.ptr 1 0] = AV.fn (Fn.func 36) [] [AV.ptr 0 0, AV.ptr 1 0]) ∧ ((AV.int IntKind.i64 0 = AV.int IntKind.i64 (((Prod.fst w0) : Nat) : Int)) ∧ ((AV.int IntKind.i64 x2 = AV.int IntKind.i64 (((Prod.snd w0) : Nat) : Int)) ∧ cnd ((full || (Bool.not full)) && Bool.true)
 ((x1 = x1) ∧ ((∀ w1 : Nat, (w1 < x1 → leR [AV.str (Pin.Pn.name (List.getD L w1 Pin.pn0)), AV.b8 32 (Pin.Pn.key (List.getD L w1 Pin.pn0)), AV.bool (Pin.Pn.gone (List.getD L w1 Pin.pn0))] [AV.str (Pin.Pn.name (List.getD L w1 Pin.pn0)), AV.b8 32 (Pin.Pn.key (List.getD L w1 Pin.pn0)), AV.bool (Pin.Pn.gone (List.getD L w1 Pin.pn0))])) ∧ ((AV.str s = AV.str s) ∧ True)))))))) ∧ (∀ w2 : Nat × Nat, (((Prod.fst w2) ≤ x0) ∧ ((x0 ≤ (Prod.snd w2)) ∧ ((Prod.snd w2) ≤ x1)) → ite2 (ltI (((Prod.fst w2) : Nat) : Int) (((Prod.snd w2) : Nat) : Int))
 -- THEN
 (cnd ((inB (wr IntKind.i64 (((UInt64.toNat (shr64 (UInt64.ofNat (Int.toNat ((wr IntKind.i64 ((((Prod.fst w2) : Nat) : Int) + (((Prod.snd w2) : Nat) : Int))) % x3))) 1)) : Nat) : Int)) x1) && Bool.true)
 (ite2 (Bool.not (Bool.not (Op.bytesLess (Pin.Pn.name (List.getD L (Int.toNat (wr IntKind.i64 (((UInt64.toNat (shr64 (UInt64.ofNat (Int.toNat ((wr IntKind.i64 ((((Prod.fst w2) : Nat) : Int) + (((Prod.snd w2) : Nat) : Int))) % x3))) (Int.toNat (((UInt64.toNat (UInt64.ofNat (Int.toNat 1))) : Nat) : Int)))) : Nat) : Int))) Pin.pn0)) s)))
 -- THEN
 ((∃ w3 : Nat × Nat, ((((fun x => (Prod.snd x) - (Prod.fst x)) w3) < ((fun x => (Prod.snd x) - (Prod.fst x)) w2)) ∧ (((Prod.fst w3) ≤ x0) ∧ ((x0 ≤ (Prod.snd w3)) ∧ ((Prod.snd w3) ≤ x1)))) ∧ ((AV.int IntKind.i64 x2 = AV.int IntKind.i64 x2) ∧ ((AV.fn (Fn.func 36) [] [AV.ptr 0 0, AV.ptr 1 0] = AV.fn (Fn.func 36) [] [AV.ptr 0 0, AV.ptr 1 0]) ∧ ((AV.int IntKind.i64 (wr IntKind.i64 ((wr IntKind.i64 (((UInt64.toNat (shr64 (UInt64.ofNat (Int.toNat ((wr IntKind.i64 ((((Prod.fst w2) : Nat) : Int) + (((Prod.snd w2) : Nat) : Int))) % x3))) 1)) : Nat) : Int)) + 1)) = AV.int IntKind.i64 (((Prod.fst w3) : Nat) : Int)) ∧ ((AV.int IntKind.i64 (((Prod.snd w2) : Nat) : Int) = AV.int IntKind.i64 (((Prod.snd w3) : Nat) : Int)) ∧ cnd ((full || (Bool.not full)) && Bool.true)
 ((x1 = x1) ∧ ((∀ w4 : Nat, (w4 < x1 → leR [AV.str (Pin.Pn.name (List.getD L w4 Pin.pn0)), AV.b8 32 (Pin.Pn.key (List.getD L w4 Pin.pn0)), AV.bool (Pin.Pn.gone (List.getD L w4 Pin.pn0))] [AV.str (Pin.Pn.name (List.getD L w4 Pin.pn0)), AV.b8 32 (Pin.Pn.key (List.getD L w4 Pin.pn0)), AV.bool (Pin.Pn.gone (List.getD L w4 Pin.pn0))])) ∧ ((AV.str s = AV.str s) ∧ True)))))))))
 -- ELSE
 ((∃ w5 : Nat × Nat, ((((fun x => (Prod.snd x) - (Prod.fst x)) w5) < ((fun x => (Prod.snd x) - (Prod.fst x)) w2)) ∧ (((Prod.fst w5) ≤ x0) ∧ ((x0 ≤ (Prod.snd w5)) ∧ ((Prod.snd w5) ≤ x1)))) ∧ ((AV.int IntKind.i64 x2 = AV.int IntKind.i64 x2) ∧ ((AV.fn (Fn.func 36) [] [AV.ptr 0 0, AV.ptr 1 0] = AV.fn (Fn.func 36) [] [AV.ptr 0 0, AV.ptr 1 0]) ∧ ((AV.int IntKind.i64 (((Prod.fst w2) : Nat) : Int) = AV.int IntKind.i64 (((Prod.fst w5) : Nat) : Int)) ∧ ((AV.int IntKind.i64 (wr IntKind.i64 (((UInt64.toNat (shr64 (UInt64.ofNat (Int.toNat ((wr IntKind.i64 ((((Prod.fst w2) : Nat) : Int) + (((Prod.snd w2) : Nat) : Int))) % x3))) 1)) : Nat) : Int)) = AV.int IntKind.i64 (((Prod.snd w5) : Nat) : Int)) ∧ cnd ((full || (Bool.not full)) && Bool.true)
 ((x1 = x1) ∧ ((∀ w6 : Nat, (w6 < x1 → leR [AV.str (Pin.Pn.name (List.getD L w6 Pin.pn0)), AV.b8 32 (Pin.Pn.key (List.getD L w6 Pin.pn0)), AV.bool (Pin.Pn.gone (List.getD L w6 Pin.pn0))] [AV.str (Pin.Pn.name (List.getD L w6 Pin.pn0)), AV.b8 32 (Pin.Pn.key (List.getD L w6 Pin.pn0)), AV.bool (Pin.Pn.gone (List.getD L w6 Pin.pn0))])) ∧ ((AV.str s = AV.str s) ∧ True)))))))))))
 -- ELSE
 (ite2 (ltI (((Prod.fst w2) : Nat) : Int) x2)
 -- THEN
 (cnd ((inB (((Prod.fst w2) : Nat) : Int) x1) && Bool.true)
 (K (AV.tup [AV.int IntKind.i64 (((Prod.fst w2) : Nat) : Int), AV.bool (cond Bool.true ((Pin.Pn.name (List.getD L (Int.toNat (((Prod.fst w2) : Nat) : Int)) Pin.pn0)) == s) Bool.false)]) []))
 -- ELSE
 (K (AV.tup [AV.int IntKind.i64 (((Prod.fst w2) : Nat) : Int), AV.bool Bool.false]) []))))) := by kernel_rfl

end Go.Proofs.Ytfpladpbnbpehaa

set_option linter.unusedSimpArgs false
set_option linter.unusedVariables false
namespace Go.Proofs.Ytfpladpbnbpehaa
open Go Go.V Go.Pin
set_option maxRecDepth 100000
theorem pcheck_c (full : Bool) (L : List Pn) (hL : L.length ≤ 1000000000) : HCall Try.E 22 [.vecr full 34 L.length (pcs L)] (.ret (.int .i64 (faultPS L)) []) := by
  refine HCall.of_walk (R := R1) (T := P1) (fun _ _ => checkL L) 5 rfl rfl ?_
  rw [pcheck_eq, faultPS_eq]
  dsimp only
  have hfa : (full || !full) = true := by cases full <;> rfl
  rw [hfa]
  have ra : ∀ x, x < L.length → leR (pcs L x) (pcs L x) := fun x _ => pcs_ok L x
  refine ite2_iff.2 ⟨fun h => ⟨?_, rfl⟩, fun h => ?_⟩
  · have := of_ltI h
    unfold faultP; rw [ltB_of (by omega)]; rfl
  have h8 := of_ltI_no h
  have hf : faultP L = bif pinsOk L then 0 else 9 := by unfold faultP; rw [ltB_no (by omega)]; rfl
  refine ⟨⟨0, ⟨by rw [Inv.upTo_int]; omega, fun j hj => by omega⟩, ?_⟩, fun i hi => ?_⟩
  · repeat' apply And.intro
    all_goals first | rfl | trivial | exact ra
  obtain ⟨hi, hok⟩ := hi
  rw [Inv.upTo_int] at hi
  rcases Nat.lt_or_ge i L.length with hlt | hge
  · rw [ltI_of (by omega), ite2_true, inB_of (by omega) (by omega), Int.toNat_natCast]
    have bad : pinOk L i = false → (Out.ret (.int .i64 (faultP L)) []).has (.int .i64 9) [] := fun hb => by
      have : pinsOk L = false := by
        cases h : pinsOk L with
        | false => rfl
        | true =>
          have := (List.all_eq_true.1 (show (List.range L.length).all (pinOk L) = true from h)) i (List.mem_range.2 hlt)
          rw [hb] at this; cases this
      rw [hf, this]; exact ⟨rfl, rfl⟩
    have good : pinOk L i = true → Inv.up (i + 1) < Inv.up i ∧ Inv.upTo [AV.int .i64 ((L.length : Nat) : Int)] (i + 1) ∧ ∀ j, j < i + 1 → pinOk L j = true := fun hb =>
      ⟨Inv.up_lt (by omega), by rw [Inv.upTo_int]; omega, fun j hj => by
        rcases Nat.lt_or_ge j i with h | h
        · exact hok j h
        · obtain rfl : j = i := by omega
          exact hb⟩
    have hw2 : wr .i64 ((i : Int) + 1) = ((i + 1 : Nat) : Int) := by rw [wr_of (by omega) (by omega)]; rfl
    rw [hw2]
    cases hn : nameOk (L.getD i pn0).name with
    | false =>
      refine bad ?_
      unfold pinOk; rw [hn]; rfl
    | true =>
      show ite2 (ltI 0 ((i : Nat) : Int)) _ _
      cases h0 : ltI 0 ((i : Nat) : Int) with
      | false =>
        have h0 := of_ltI_no h0
        refine ⟨i + 1, good ?_, ?_⟩
        · unfold pinOk; rw [hn, ltB_no (by omega)]; rfl
        · repeat' apply And.intro
          all_goals first | rfl | trivial | exact ra
      | true =>
        have h0 := of_ltI h0
        have hw3 : wr .i64 (subI ((i : Nat) : Int) 1) = ((i - 1 : Nat) : Int) := by rw [subI_eq, wr_of (by omega) (by omega)]; omega
        rw [hw3, ite2_true, inB_of (by omega) (by omega), Int.toNat_natCast]
        show ite2 (!Op.bytesLess (L.getD (i - 1) pn0).name (L.getD i pn0).name) _ _
        cases hb : Op.bytesLess (L.getD (i - 1) pn0).name (L.getD i pn0).name with
        | false =>
          refine bad ?_
          unfold pinOk; rw [hn, ltB_of (by omega), hb]; rfl
        | true =>
          refine ⟨i + 1, good ?_, ?_⟩
          · unfold pinOk; rw [hn, ltB_of (by omega), hb]; rfl
          · repeat' apply And.intro
            all_goals first | rfl | trivial | exact ra
  · rw [ltI_no (by omega), ite2_false]
    have : pinsOk L = true := List.all_eq_true.2 fun j hj => hok j (by have := List.mem_range.1 hj; omega)
    rw [hf, this]
    exact ⟨rfl, rfl⟩

noncomputable def posS : List Pn → List UInt8 → Nat := (sealed posP).val
theorem posS_eq : posS = posP := by rw [posS, (sealed posP).property]
noncomputable def hasS : List Pn → List UInt8 → Bool := (sealed hasP).val
theorem hasS_eq : hasS = hasP := by rw [hasS, (sealed hasP).property]
theorem pfind_c (full : Bool) (L : List Pn) (s : List UInt8) (hL : L.length ≤ 1000000000) (hp : pinsOk L = true) :
    HCall Try.E 29 [.vecr full 34 L.length (pcs L), .str s] (.ret (.tup [.int .i64 ((posS L s : Nat) : Int), .bool (hasS L s)]) []) := by
  refine HCall.of_walk (R := R1) (T := P1) (fun f _ => bif f == 35 then searchL L s else .unroll 2) 5 rfl rfl ?_
  rw [pfind_eq, posS_eq, hasS_eq]
  dsimp only
  have hfa : (full || !full) = true := by cases full <;> rfl
  rw [hfa]
  have ra : ∀ x, x < L.length → leR (pcs L x) (pcs L x) := fun x _ => pcs_ok L x
  have hpl := posP_le L s
  refine ⟨⟨(0, L.length), ⟨Nat.zero_le _, hpl, Nat.le_refl _⟩, ?_⟩, fun w hw => ?_⟩
  · repeat' apply And.intro
    all_goals first | rfl | trivial | exact ra
  obtain ⟨i, j⟩ := w
  obtain ⟨h1, h2, h3⟩ := hw
  dsimp only at h1 h2 h3 ⊢
  have q1 : Int.toNat (((UInt64.toNat (UInt64.ofNat (Int.toNat 1))) : Nat) : Int) = 1 := rfl
  rw [q1, mid_val (by omega)]
  rcases Nat.lt_or_ge i j with hlt | hge
  · rw [ltI_of (by omega), ite2_true, inB_of (by omega) (by omega), Int.toNat_natCast]
    have hspec := posP_spec hp (s := s) (j := (i + j) / 2) (by omega)
    rw [show (L.getD ((i + j) / 2) pn0).name = nm L ((i + j) / 2) from rfl, hspec, Bool.not_not]
    cases hb : ltB ((i + j) / 2) (posP L s) with
    | true =>
      have hb := ltB_iff.1 hb
      have hw : wr .i64 ((((i + j) / 2 : Nat) : Int) + 1) = (((i + j) / 2 + 1 : Nat) : Int) := by rw [wr_of (by omega) (by omega)]; rfl
      rw [hw]
      refine ⟨((i + j) / 2 + 1, j), ⟨by show j - _ < j - i; omega, by show (i + j) / 2 + 1 ≤ _; omega, h2, h3⟩, ?_⟩
      repeat' apply And.intro
      all_goals first | rfl | trivial | exact ra
    | false =>
      have hb := of_ltB_no hb
      refine ⟨(i, (i + j) / 2), ⟨by show _ - i < j - i; omega, h1, hb, by show (i + j) / 2 ≤ _; omega⟩, ?_⟩
      repeat' apply And.intro
      all_goals first | rfl | trivial | exact ra
  · rw [ltI_no (by omega), ite2_false, Int.toNat_natCast]
    obtain rfl : i = posP L s := by omega
    unfold hasP
    refine ite2_iff.2 ⟨fun h => ?_, fun h => ?_⟩
    · have h := of_ltI h
      rw [inB_of (by omega) (by omega), ltB_of (by omega), Bool.true_and]
      exact ⟨rfl, rfl⟩
    · have h := of_ltI_no h
      rw [ltB_no (by omega), Bool.false_and]
      exact ⟨rfl, rfl⟩
noncomputable def P2 : Ctr Try.E := (P1.add 22 (fun
    | [.vecr _ 34 n f] => some (leB n 1000000000 && isPns n f, .ret (.int .i64 (faultPS (pnsOf n f))) [])
    | _ => none) (by
      intro args pre out h hp
      split at h
      · simp only [Option.some.injEq, Prod.mk.injEq] at h
        obtain ⟨rfl, rfl⟩ := h
        simp only [Bool.and_eq_true] at hp
        obtain ⟨L, rfl, hf⟩ := isPns_iff.1 hp.2
        rw [pnsOf_eq L rfl hf]
        refine HCall.args (pcheck_c false L (leB_iff.1 hp.1)) rfl fun ρ I w vs r => ?_
        obtain ⟨x, xs, rfl, k1, k2⟩ := RV_cons.1 r
        exact RV_cons.2 ⟨x, xs, rfl, leV_vecr (by simp) (fun i hi => leR.of_eq (pcs_ok L i).ok (hf i hi)) _ _ _ _ k1, k2⟩
      · simp at h)).add 29 (fun
    | [.vecr _ 34 n f, .str s] => some ((leB n 1000000000 && isPns n f) && pinsOk (pnsOf n f), .ret (.tup [.int .i64 ((posS (pnsOf n f) s : Nat) : Int), .bool (hasS (pnsOf n f) s)]) [])
    | _ => none) (by
      intro args pre out h hp
      split at h
      · simp only [Option.some.injEq, Prod.mk.injEq] at h
        obtain ⟨rfl, rfl⟩ := h
        simp only [Bool.and_eq_true] at hp
        obtain ⟨L, rfl, hf⟩ := isPns_iff.1 hp.1.2
        have hp2 := hp.2
        rw [pnsOf_eq L rfl hf] at hp2 ⊢
        refine HCall.args (pfind_c false L _ (leB_iff.1 hp.1.1) hp2) rfl fun ρ I w vs r => ?_
        obtain ⟨x, xs, rfl, k1, k2⟩ := RV_cons.1 r
        exact RV_cons.2 ⟨x, xs, rfl, leV_vecr (by simp) (fun i hi => leR.of_eq (pcs_ok L i).ok (hf i hi)) _ _ _ _ k1, k2⟩
      · simp at h)
end Go.Proofs.Ytfpladpbnbpehaa

set_option linter.unusedSimpArgs false
set_option linter.unusedVariables false
namespace Go.Proofs.Ytfpladpbnbpehaa
open Go Go.V Go.Pin
set_option maxHeartbeats 0
set_option maxRecDepth 100000

theorem rot1_eq (nm key k : List UInt8) (gone : Bool) (K : AV → Heap → Prop) : walk Try.E R1 P2.C (fun _ _ => .unroll 2) 5 32 [.agg [.str nm, .b8 32 key, .bool gone], .vp [.b8 32 k] 0] K = (

 K (AV.sl 0 0 34 1) [Ent.grow 34 [AV.agg [AV.str nm, AV.b8 32 k, AV.bool Bool.false]] []]) := by kernel_rfl

theorem rev1_eq (nm key : List UInt8) (gone : Bool) (K : AV → Heap → Prop) : walk Try.E R1 P2.C (fun _ _ => .unroll 2) 5 34 [.agg [.str nm, .b8 32 key, .bool gone]] K = (

 K (AV.sl 0 0 34 1) [Ent.grow 34 [AV.agg [AV.str nm, AV.b8 32 key, AV.bool Bool.true]] []]) := by kernel_rfl

theorem for1_eq (nm key : List UInt8) (gone : Bool) (K : AV → Heap → Prop) : walk Try.E R1 P2.C (fun _ _ => .unroll 2) 5 33 [.agg [.str nm, .b8 32 key, .bool gone]] K = (

 K (AV.vec8 Bool.true []) []) := by kernel_rfl

end Go.Proofs.Ytfpladpbnbpehaa

set_option linter.unusedSimpArgs false
set_option linter.unusedVariables false
namespace Go.Proofs.Ytfpladpbnbpehaa
open Go Go.V Go.Pin
set_option maxRecDepth 100000
theorem one_row {nm key : List UInt8} {gone : Bool} : okOut (.ret (.vecr false 34 1 (pcs [⟨nm, key, gone⟩])) []) (.sl 0 0 34 1) [.grow 34 [.agg [.str nm, .b8 32 key, .bool gone]] []] := by
  refine okOut.cold (v' := .vec false 34 [.agg [.str nm, .b8 32 key, .bool gone]]) rfl ?_ rfl ⟨rfl, rfl⟩
  exact leV_rows (k := 34) [[.str nm, .b8 32 key, .bool gone]] (pcs [⟨nm, key, gone⟩]) (fun i hi => by
    obtain rfl : i = 0 := by simpa using hi
    rfl) (fun i hi => rfl)
theorem rot1_c (nm key k : List UInt8) (gone : Bool) : HCall Try.E 32 [.agg [.str nm, .b8 32 key, .bool gone], .vp [.b8 32 k] 0] (.ret (.vecr false 34 1 (pcs [⟨nm, k, false⟩])) []) := by
  refine HCall.of_walkC (R := R1) (T := P2) (fun _ _ => .unroll 2) 5 rfl rfl ?_
  rw [rot1_eq]
  exact one_row
theorem rev1_c (nm key : List UInt8) (gone : Bool) : HCall Try.E 34 [.agg [.str nm, .b8 32 key, .bool gone]] (.ret (.vecr false 34 1 (pcs [⟨nm, key, true⟩])) []) := by
  refine HCall.of_walkC (R := R1) (T := P2) (fun _ _ => .unroll 2) 5 rfl rfl ?_
  rw [rev1_eq]
  exact one_row
theorem for1_c (nm key : List UInt8) (gone : Bool) : HCall Try.E 33 [.agg [.str nm, .b8 32 key, .bool gone]] (.ret (.vecr false 34 0 (pcs [])) []) := by
  refine HCall.of_walkC (R := R1) (T := P2) (fun _ _ => .unroll 2) 5 rfl rfl ?_
  rw [for1_eq]
  exact okOut.cold (v' := .vec8 true []) rfl (leV_nil rfl) rfl ⟨rfl, rfl⟩
noncomputable def P3 : Ctr Try.E := ((P2.add 32 (fun
    | [.agg [.str nm, .b8 32 _, .bool _], .vp [.b8 32 k] 0] => some (true, .ret (.vecr false 34 1 (pcs [⟨nm, k, false⟩])) [])
    | _ => none) (by
      intro args pre out h hp
      split at h
      · simp only [Option.some.injEq, Prod.mk.injEq] at h
        obtain ⟨rfl, rfl⟩ := h
        exact rot1_c _ _ _ _
      · simp at h)).add 34 (fun
    | [.agg [.str nm, .b8 32 key, .bool _]] => some (true, .ret (.vecr false 34 1 (pcs [⟨nm, key, true⟩])) [])
    | _ => none) (by
      intro args pre out h hp
      split at h
      · simp only [Option.some.injEq, Prod.mk.injEq] at h
        obtain ⟨rfl, rfl⟩ := h
        exact rev1_c _ _ _
      · simp at h)).add 33 (fun
    | [.agg [.str _, .b8 32 _, .bool _]] => some (true, .ret (.vecr false 34 0 (pcs [])) [])
    | _ => none) (by
      intro args pre out h hp
      split at h
      · simp only [Option.some.injEq, Prod.mk.injEq] at h
        obtain ⟨rfl, rfl⟩ := h
        exact for1_c _ _ _
      · simp at h)
end Go.Proofs.Ytfpladpbnbpehaa

set_option linter.unusedSimpArgs false
set_option linter.unusedVariables false
namespace Go.Proofs.Ytfpladpbnbpehaa
open Go Go.V Go.Pin
set_option maxHeartbeats 0
set_option maxRecDepth 100000

theorem pFind_eq (full : Bool) (L : List Pn) (s : List UInt8) (K : AV → Heap → Prop) : walk Try.E R1 P3.C (fun _ _ => .unroll 2) 5 18 [.vecr full 34 L.length (pcs L), .str s] K = (
 let x0 : Nat := (List.length L)
 let x1 : Bool := (leB x0 1000000000) && (Pin.isPns x0 (Pin.pcs L))
 let x2 : List Pn := (Pin.pnsOf x0 (Pin.pcs L))
 let x3 : Int := (Pin.faultPS x2)
 let x4 : Int := (((posS x2 s) : Nat) : Int)
 cnd (x1)
 (ite2 (x3 != 0)
 -- THEN
 (K (AV.tup [AV.agg [AV.str [], AV.b8 32 [0, 0, 0, 0, 0, 0, 0, 0, 0, 0, 0, 0, 0, 0, 0, 0, 0, 0, 0, 0, 0, 0, 0, 0, 0, 0, 0, 0, 0, 0, 0, 0], AV.bool Bool.false], AV.int IntKind.i64 x3]) [])
 -- ELSE
 (cnd (x1 && (Pin.pinsOk x2))
 (ite2 (Bool.not (hasS x2 s))
 -- THEN
 (K (AV.tup [AV.agg [AV.str [], AV.b8 32 [0, 0, 0, 0, 0, 0, 0, 0, 0, 0, 0, 0, 0, 0, 0, 0, 0, 0, 0, 0, 0, 0, 0, 0, 0, 0, 0, 0, 0, 0, 0, 0], AV.bool Bool.false], AV.int IntKind.i64 5]) [])
 -- ELSE
 (cnd ((inB x4 x0) && Bool.true)
 (K (AV.tup [AV.agg [AV.str (Pin.Pn.name (List.getD L (Int.toNat x4) Pin.pn0)), AV.b8 32 (Pin.Pn.key (List.getD L (Int.toNat x4) Pin.pn0)), AV.bool (Pin.Pn.gone (List.getD L (Int.toNat x4) Pin.pn0))], AV.int IntKind.i64 0]) [])))))) := by kernel_rfl

theorem pTrust_eq (full : Bool) (L : List Pn) (s k : List UInt8) (K : AV → Heap → Prop) : walk Try.E R1 P3.C (fun _ _ => .unroll 2) 5 19 [.vecr full 34 L.length (pcs L), .str s, .b8 32 k] K = (
 let x0 : Nat := (List.length L)
 let x1 : Bool := (leB x0 1000000000) && (Pin.isPns x0 (Pin.pcs L))
 let x2 : List Pn := (Pin.pnsOf x0 (Pin.pcs L))
 let x3 : Int := (Pin.faultPS x2)
 let x4 : Int := (((posS x2 s) : Nat) : Int)
 let x5 : Bool := (inB x4 x0) && Bool.true
 let x6 : Nat := 140737488355328
 let x7 : Nat := ((hiN x0 (Option.some x4)) - 0)
 let x8 : Nat := (loN (Option.some x4))
 let x9 : Nat := ((x7 + 1) + ((hiN x0 Option.none) - x8))
 cnd (x1)
 (ite2 (x3 != 0)
 -- THEN
 (K (AV.tup [AV.vec8 Bool.true [], AV.int IntKind.i64 x3]) [])
 -- ELSE
 (ite2 (Bool.not (Pin.nameOk s))
 -- THEN
 (K (AV.tup [AV.vec8 Bool.true [], AV.int IntKind.i64 3]) [])
 -- ELSE
 (cnd (x1 && (Pin.pinsOk x2))
 (ite2 (hasS x2 s)
 -- THEN
 (cnd (x5)
 (ite2 (Pin.Pn.gone (List.getD L (Int.toNat x4) Pin.pn0))
 -- THEN
 (K (AV.tup [AV.vec8 Bool.true [], AV.int IntKind.i64 13]) [])
 -- ELSE
 (cnd (x5)
 (ite2 (cond Bool.true (cond Bool.false Bool.true (Bool.not ((Pin.Pn.key (List.getD L (Int.toNat x4) Pin.pn0)) == k))) Bool.false)
 -- THEN
 (K (AV.tup [AV.vec8 Bool.true [], AV.int IntKind.i64 13]) [])
 -- ELSE
 (ite2 (hasS x2 s)
 -- THEN
 (cnd (leB (x0 * 56) x6)
 (K (AV.tup [AV.slv 0 34 x0 (Pin.pcs L), AV.int IntKind.i64 0]) [Ent.tail 34 x0]))
 -- ELSE
 (ite2 (((x0 : Nat) : Int) == 8)
 -- THEN
 (K (AV.tup [AV.vec8 Bool.true [], AV.int IntKind.i64 8]) [])
 -- ELSE
 (cnd (Bool.true && (sliceOk Option.none (Option.some x4) x0))
 (cnd (leB (x7 * 56) x6)
 (cnd (x7 == x7)
 (cnd (leB ((x7 + 1) * 56) x6)
 (cnd (Bool.true && (sliceOk (Option.some x4) Option.none x0))
 (cnd ((x7 + 1) == (x7 + 1))
 (cnd (leB (x9 * 56) x6)
 (K (AV.tup [AV.slv 0 34 x9 (catF (x7 + 1) (catF x7 (fun i => Pin.pcs L ((loN Option.none) + i)) (rowF [AV.agg [AV.str s, AV.b8 32 k, AV.bool Bool.false]])) (fun i => Pin.pcs L (x8 + i))), AV.int IntKind.i64 0]) [Ent.tail 34 x9]))))))))))))))
 -- ELSE
 (ite2 (hasS x2 s)
 -- THEN
 (cnd (leB (x0 * 56) x6)
 (K (AV.tup [AV.slv 0 34 x0 (Pin.pcs L), AV.int IntKind.i64 0]) [Ent.tail 34 x0]))
 -- ELSE
 (ite2 (((x0 : Nat) : Int) == 8)
 -- THEN
 (K (AV.tup [AV.vec8 Bool.true [], AV.int IntKind.i64 8]) [])
 -- ELSE
 (cnd (Bool.true && (sliceOk Option.none (Option.some x4) x0))
 (cnd (leB (x7 * 56) x6)
 (cnd (x7 == x7)
 (cnd (leB ((x7 + 1) * 56) x6)
 (cnd (Bool.true && (sliceOk (Option.some x4) Option.none x0))
 (cnd ((x7 + 1) == (x7 + 1))
 (cnd (leB (x9 * 56) x6)
 (K (AV.tup [AV.slv 0 34 x9 (catF (x7 + 1) (catF x7 (fun i => Pin.pcs L ((loN Option.none) + i)) (rowF [AV.agg [AV.str s, AV.b8 32 k, AV.bool Bool.false]])) (fun i => Pin.pcs L (x8 + i))), AV.int IntKind.i64 0]) [Ent.tail 34 x9]))))))))))))))) := by kernel_rfl

theorem pRotate_eq (full : Bool) (L : List Pn) (s k : List UInt8) (K : AV → Heap → Prop) : walk Try.E R1 P3.C (fun _ _ => .unroll 2) 5 21 [.vecr full 34 L.length (pcs L), .str s, .b8 32 k] K = (
 let x0 : Nat := (List.length L)
 let x1 : Bool := (leB x0 1000000000) && (Pin.isPns x0 (Pin.pcs L))
 let x2 : List Pn := (Pin.pnsOf x0 (Pin.pcs L))
 let x3 : Int := (Pin.faultPS x2)
 let x4 : Int := (((posS x2 s) : Nat) : Int)
 let x5 : Nat := ((hiN x0 (Option.some x4)) - 0)
 let x6 : Nat := 140737488355328
 let x7 : Nat := (loN (Option.some (wr IntKind.i64 (x4 + 1))))
 let x8 : Nat := ((x5 + 1) + ((hiN x0 Option.none) - x7))
 cnd (x1)
 (ite2 (x3 != 0)
 -- THEN
 (K (AV.tup [AV.vec8 Bool.true [], AV.int IntKind.i64 x3]) [])
 -- ELSE
 (cnd (x1 && (Pin.pinsOk x2))
 (ite2 (Bool.not (hasS x2 s))
 -- THEN
 (K (AV.tup [AV.vec8 Bool.true [], AV.int IntKind.i64 5]) [])
 -- ELSE
 (cnd (Bool.true && (sliceOk Option.none (Option.some x4) x0))
 (cnd (leB (x5 * 56) x6)
 (cnd ((inB x4 x0) && Bool.true)
 (cnd (x5 == x5)
 (cnd (leB ((x5 + 1) * 56) x6)
 (cnd (Bool.true && (sliceOk (Option.some (wr IntKind.i64 (x4 + 1))) Option.none x0))
 (cnd ((x5 + 1) == (x5 + 1))
 (cnd (leB (x8 * 56) x6)
 (K (AV.tup [AV.slv 0 34 x8 (catF (x5 + 1) (catF x5 (fun i => Pin.pcs L ((loN Option.none) + i)) (Pin.pcs [Pin.Pn.mk (Pin.Pn.name (List.getD L (Int.toNat x4) Pin.pn0)) k Bool.false])) (fun i => Pin.pcs L (x7 + i))), AV.int IntKind.i64 0]) [Ent.tail 34 x8]))))))))))))) := by kernel_rfl

theorem pRevoke_eq (full : Bool) (L : List Pn) (s : List UInt8) (K : AV → Heap → Prop) : walk Try.E R1 P3.C (fun _ _ => .unroll 2) 5 28 [.vecr full 34 L.length (pcs L), .str s] K = (
 let x0 : Nat := (List.length L)
 let x1 : Bool := (leB x0 1000000000) && (Pin.isPns x0 (Pin.pcs L))
 let x2 : List Pn := (Pin.pnsOf x0 (Pin.pcs L))
 let x3 : Int := (Pin.faultPS x2)
 let x4 : Int := (((posS x2 s) : Nat) : Int)
 let x5 : Nat := ((hiN x0 (Option.some x4)) - 0)
 let x6 : Nat := 140737488355328
 let x7 : Nat := (loN (Option.some (wr IntKind.i64 (x4 + 1))))
 let x8 : Nat := ((x5 + 1) + ((hiN x0 Option.none) - x7))
 cnd (x1)
 (ite2 (x3 != 0)
 -- THEN
 (K (AV.tup [AV.vec8 Bool.true [], AV.int IntKind.i64 x3]) [])
 -- ELSE
 (cnd (x1 && (Pin.pinsOk x2))
 (ite2 (Bool.not (hasS x2 s))
 -- THEN
 (K (AV.tup [AV.vec8 Bool.true [], AV.int IntKind.i64 5]) [])
 -- ELSE
 (cnd (Bool.true && (sliceOk Option.none (Option.some x4) x0))
 (cnd (leB (x5 * 56) x6)
 (cnd ((inB x4 x0) && Bool.true)
 (cnd (x5 == x5)
 (cnd (leB ((x5 + 1) * 56) x6)
 (cnd (Bool.true && (sliceOk (Option.some (wr IntKind.i64 (x4 + 1))) Option.none x0))
 (cnd ((x5 + 1) == (x5 + 1))
 (cnd (leB (x8 * 56) x6)
 (K (AV.tup [AV.slv 0 34 x8 (catF (x5 + 1) (catF x5 (fun i => Pin.pcs L ((loN Option.none) + i)) (Pin.pcs [Pin.Pn.mk (Pin.Pn.name (List.getD L (Int.toNat x4) Pin.pn0)) (Pin.Pn.key (List.getD L (Int.toNat x4) Pin.pn0)) Bool.true])) (fun i => Pin.pcs L (x7 + i))), AV.int IntKind.i64 0]) [Ent.tail 34 x8]))))))))))))) := by kernel_rfl

theorem pForget_eq (full : Bool) (L : List Pn) (s : List UInt8) (K : AV → Heap → Prop) : walk Try.E R1 P3.C (fun _ _ => .unroll 2) 5 25 [.vecr full 34 L.length (pcs L), .str s] K = (
 let x0 : Nat := (List.length L)
 let x1 : Bool := (leB x0 1000000000) && (Pin.isPns x0 (Pin.pcs L))
 let x2 : List Pn := (Pin.pnsOf x0 (Pin.pcs L))
 let x3 : Int := (Pin.faultPS x2)
 let x4 : Int := (((posS x2 s) : Nat) : Int)
 let x5 : Nat := ((hiN x0 (Option.some x4)) - 0)
 let x6 : Nat := 140737488355328
 let x7 : Nat := (loN (Option.some (wr IntKind.i64 (x4 + 1))))
 let x8 : Nat := ((x5 + 0) + ((hiN x0 Option.none) - x7))
 cnd (x1)
 (ite2 (x3 != 0)
 -- THEN
 (K (AV.tup [AV.vec8 Bool.true [], AV.int IntKind.i64 x3]) [])
 -- ELSE
 (cnd (x1 && (Pin.pinsOk x2))
 (ite2 (Bool.not (hasS x2 s))
 -- THEN
 (K (AV.tup [AV.vec8 Bool.true [], AV.int IntKind.i64 5]) [])
 -- ELSE
 (cnd (Bool.true && (sliceOk Option.none (Option.some x4) x0))
 (cnd (leB (x5 * 56) x6)
 (cnd ((inB x4 x0) && Bool.true)
 (cnd (x5 == x5)
 (cnd (leB ((x5 + 0) * 56) x6)
 (cnd (Bool.true && (sliceOk (Option.some (wr IntKind.i64 (x4 + 1))) Option.none x0))
 (cnd ((x5 + 0) == (x5 + 0))
 (cnd (leB (x8 * 56) x6)
 (K (AV.tup [AV.slv 0 34 x8 (catF (x5 + 0) (catF x5 (fun i => Pin.pcs L ((loN Option.none) + i)) (Pin.pcs [])) (fun i => Pin.pcs L (x7 + i))), AV.int IntKind.i64 0]) [Ent.tail 34 x8]))))))))))))) := by kernel_rfl

end Go.Proofs.Ytfpladpbnbpehaa

set_option linter.unusedSimpArgs false
set_option linter.unusedVariables false
namespace Go.Proofs.Ytfpladpbnbpehaa
open Go Go.V Go.Pin
set_option maxRecDepth 100000
theorem pins_of (L : List Pn) : pnsOf L.length (pcs L) = L := pnsOf_eq L rfl fun _ _ => rfl
theorem pFind_c (full : Bool) (L : List Pn) (s : List UInt8) (hL : L.length ≤ 1000000000) :
    HCall Try.E 18 [.vecr full 34 L.length (pcs L), .str s] (.ret (.tup [.agg (findS L s).1.cells, .int .i64 (findS L s).2]) []) := by
  refine HCall.of_walk (R := R1) (T := P3) (fun _ _ => .unroll 2) 5 rfl rfl ?_
  rw [pFind_eq, findS_eq]
  dsimp only
  rw [pins_of, faultPS_eq, posS_eq, hasS_eq, isPns_pcs, leB_of hL]
  unfold findP
  show ite2 (faultP L != 0) _ _
  cases hf : faultP L == 0 with
  | false =>
    have : (faultP L != 0) = true := by rw [bne, hf]; rfl
    rw [this]
    exact ⟨rfl, rfl⟩
  | true =>
    have : (faultP L != 0) = false := by rw [bne, hf]; rfl
    have h0 : faultP L = 0 := by simpa using hf
    obtain ⟨h8, hp⟩ := fault_le h0
    rw [this, hp]
    show ite2 (!hasP L s) _ _
    cases hh : hasP L s with
    | false => exact ⟨rfl, rfl⟩
    | true =>
      have hlt : posP L s < L.length := by
        unfold hasP at hh
        rw [Bool.and_eq_true] at hh
        exact ltB_iff.1 hh.1
      show cnd _ _
      rw [inB_of (by omega) (by omega), Int.toNat_natCast]
      exact ⟨rfl, rfl⟩
theorem hasP_lt {L : List Pn} {s : List UInt8} (h : hasP L s = true) : posP L s < L.length := by
  unfold hasP at h
  rw [Bool.and_eq_true] at h
  exact ltB_iff.1 h.1
theorem pos_slices (n k : Nat) (h : k ≤ n) : sliceOk none (some ((k : Nat) : Int)) n = true ∧ sliceOk (some ((k : Nat) : Int)) none n = true ∧ hiN n (some ((k : Nat) : Int)) - 0 = k ∧ hiN n none = n ∧ loN (some ((k : Nat) : Int)) = k ∧ loN none = 0 := by
  refine ⟨?_, ?_, ?_, rfl, Int.toNat_natCast _, rfl⟩
  · show (nnB _ && leB (Int.toNat _) _) = true
    rw [nnB_nat, Int.toNat_natCast, leB_of h]; rfl
  · show (nnB _ && leB (Int.toNat _) _) = true
    rw [nnB_nat, Int.toNat_natCast, leB_of h]; rfl
  · show k - 0 = k; omega
theorem ins_rows {L : List Pn} {k : Nat} {g : List Pn} (hk : k ≤ L.length) {c : Nat → List AV} (hc : ∀ i, i < g.length → c i = pcs g i) {m : Nat} (hm : m ≤ L.length) :
    ∀ i, i < k + g.length + (L.length - m) → catF (k + g.length) (catF k (fun i => pcs L (0 + i)) c) (fun i => pcs L (m + i)) i = pcs ((L.take k ++ g) ++ L.drop m) i := by
  have h1 := catF_pcs (a := L.take k) (b := g) (n := k) (f := fun i => pcs L (0 + i)) (g := c) (by rw [List.length_take]; omega) (fun i hi => by rw [Nat.zero_add]; exact (pcs_take hi).symm) hc
  have h2 := catF_pcs (a := L.take k ++ g) (b := L.drop m) (n := k + g.length) (f := catF k (fun i => pcs L (0 + i)) c) (g := fun i => pcs L (m + i)) (by rw [List.length_append, List.length_take]; omega) h1 (fun i _ => pcs_drop.symm)
  intro i hi
  exact h2 i (by rw [List.length_drop]; exact hi)
theorem pTrust_c (full : Bool) (L : List Pn) (s k : List UInt8) (hL : L.length ≤ 1000000000) :
    HCall Try.E 19 [.vecr full 34 L.length (pcs L), .str s, .b8 32 k] (pinsO (trustS L s k)) := by
  refine HCall.of_walkC (R := R1) (T := P3) (fun _ _ => .unroll 2) 5 rfl rfl ?_
  rw [pTrust_eq, trustS_eq]
  dsimp only
  rw [pins_of, faultPS_eq, posS_eq, hasS_eq, isPns_pcs, leB_of hL]
  obtain ⟨r, hr⟩ : ∃ r, trustP L s k = r := ⟨_, rfl⟩
  have hdef := hr
  unfold trustP at hdef
  rw [hr]
  show ite2 (faultP L != 0) _ _
  cases hf : faultP L == 0 with
  | false =>
    have : (faultP L != 0) = true := by rw [bne, hf]; rfl
    rw [this]
    rw [hf] at hdef
    exact pins_nil hdef.symm
  | true =>
    have : (faultP L != 0) = false := by rw [bne, hf]; rfl
    have h0 : faultP L = 0 := by simpa using hf
    obtain ⟨h8, hp⟩ := fault_le h0
    rw [hf, cond_true] at hdef
    rw [this, hp]
    show ite2 (!nameOk s) _ _
    cases hn : nameOk s with
    | false => rw [hn] at hdef; exact pins_nil hdef.symm
    | true =>
      rw [hn, cond_true] at hdef
      show ite2 (hasP L s) _ _
      have hpl := posP_le L s
      cases hh : hasP L s with
      | true =>
        have hlt := hasP_lt hh
        rw [hh, cond_true] at hdef
        show cnd _ _
        rw [inB_of (by omega) (by omega), Int.toNat_natCast]
        show ite2 (L.getD (posP L s) pn0).gone _ _
        cases hg : (L.getD (posP L s) pn0).gone with
        | true => rw [hg] at hdef; exact pins_nil hdef.symm
        | false =>
          rw [hg, Bool.false_or] at hdef
          show ite2 (!((L.getD (posP L s) pn0).key == k)) _ _
          cases hk : (L.getD (posP L s) pn0).key == k with
          | false => rw [hk] at hdef; exact pins_nil hdef.symm
          | true =>
            rw [hk] at hdef
            show cnd _ _
            rw [leB_of (by omega)]
            exact pins_rows hdef.symm rfl fun _ _ => rfl
      | false =>
        rw [hh, cond_false] at hdef
        show ite2 (((L.length : Nat) : Int) == 8) _ _
        have he : (((L.length : Nat) : Int) == 8) = (L.length == 8) := by
          cases h : L.length == 8 with
          | true => have : L.length = 8 := by simpa using h
                    rw [this]; rfl
          | false => have : L.length ≠ 8 := by simpa using h
                     rw [beq_false_of_ne (by omega)]
        rw [he]
        cases h88 : L.length == 8 with
        | true => rw [h88] at hdef; exact pins_nil hdef.symm
        | false =>
          rw [h88, cond_false] at hdef
          obtain ⟨s1, s2, s3, s4, s5, s6⟩ := pos_slices L.length (posP L s) hpl
          rw [s1, s2, s3, s4, s5, s6]
          show cnd _ _
          rw [leB_of (by omega), beq_self_eq_true, beq_self_eq_true, leB_of (by omega), leB_of (by omega)]
          refine pins_rows hdef.symm ?_ (ins_rows (g := [⟨s, k, false⟩]) hpl (fun i hi => ?_) hpl)
          · unfold insP
            rw [List.length_append, List.length_append, List.length_take, List.length_drop]
            show _ = _ + 1 + _; omega
          · obtain rfl : i = 0 := by simpa using hi
            rfl
end Go.Proofs.Ytfpladpbnbpehaa

set_option linter.unusedSimpArgs false
set_option linter.unusedVariables false
namespace Go.Proofs.Ytfpladpbnbpehaa
open Go Go.V Go.Pin
set_option maxRecDepth 100000
theorem pRotate_c (full : Bool) (L : List Pn) (s k : List UInt8) (hL : L.length ≤ 1000000000) :
    HCall Try.E 21 [.vecr full 34 L.length (pcs L), .str s, .b8 32 k] (pinsO (rotateS L s k)) := by
  refine HCall.of_walkC (R := R1) (T := P3) (fun _ _ => .unroll 2) 5 rfl rfl ?_
  rw [pRotate_eq, rotateS_eq]
  dsimp only
  rw [pins_of, faultPS_eq, posS_eq, hasS_eq, isPns_pcs, leB_of hL]
  obtain ⟨r, hr⟩ : ∃ r, rotateP L s k = r := ⟨_, rfl⟩
  have hdef := hr
  unfold rotateP changeP at hdef
  rw [hr]
  show ite2 (faultP L != 0) _ _
  cases hf : faultP L == 0 with
  | false =>
    have : (faultP L != 0) = true := by rw [bne, hf]; rfl
    rw [this]
    rw [hf] at hdef
    exact pins_nil hdef.symm
  | true =>
    have : (faultP L != 0) = false := by rw [bne, hf]; rfl
    have h0 : faultP L = 0 := by simpa using hf
    obtain ⟨h8, hp⟩ := fault_le h0
    rw [hf, cond_true] at hdef
    rw [this, hp]
    show ite2 (!hasP L s) _ _
    have hpl := posP_le L s
    cases hh : hasP L s with
    | false => rw [hh] at hdef; exact pins_nil hdef.symm
    | true =>
      have hlt := hasP_lt hh
      rw [hh, cond_true] at hdef
      obtain ⟨s1, _, s3, s4, _, s6⟩ := pos_slices L.length (posP L s) hpl
      have hw : wr .i64 (((posP L s : Nat) : Int) + 1) = ((posP L s + 1 : Nat) : Int) := by rw [wr_of (by omega) (by omega)]; rfl
      obtain ⟨_, s2, _, _, s5, _⟩ := pos_slices L.length (posP L s + 1) (by omega)
      rw [hw, s1, s2, s3, s4, s5, s6, inB_of (by omega) (by omega)]
      show cnd _ _
      rw [leB_of (by omega)]
      show cnd _ (cnd _ (cnd _ _))
      rw [beq_self_eq_true, leB_of (by omega)]
      show cnd _ (cnd _ _)
      rw [beq_self_eq_true, leB_of (by omega)]
      refine pins_rows hdef.symm ?_ (ins_rows (g := [⟨(L.getD (posP L s) pn0).name, k, false⟩]) hpl (fun i hi => ?_) (by omega))
      · unfold chgP
        rw [List.length_append, List.length_append, List.length_take, List.length_drop]
        show _ = _ + 1 + _; omega
      · obtain rfl : i = 0 := by simpa using hi
        first | rfl | (rw [Int.toNat_natCast])
theorem pRevoke_c (full : Bool) (L : List Pn) (s : List UInt8) (hL : L.length ≤ 1000000000) :
    HCall Try.E 28 [.vecr full 34 L.length (pcs L), .str s] (pinsO (revokeS L s)) := by
  refine HCall.of_walkC (R := R1) (T := P3) (fun _ _ => .unroll 2) 5 rfl rfl ?_
  rw [pRevoke_eq, revokeS_eq]
  dsimp only
  rw [pins_of, faultPS_eq, posS_eq, hasS_eq, isPns_pcs, leB_of hL]
  obtain ⟨r, hr⟩ : ∃ r, revokeP L s = r := ⟨_, rfl⟩
  have hdef := hr
  unfold revokeP changeP at hdef
  rw [hr]
  show ite2 (faultP L != 0) _ _
  cases hf : faultP L == 0 with
  | false =>
    have : (faultP L != 0) = true := by rw [bne, hf]; rfl
    rw [this]
    rw [hf] at hdef
    exact pins_nil hdef.symm
  | true =>
    have : (faultP L != 0) = false := by rw [bne, hf]; rfl
    have h0 : faultP L = 0 := by simpa using hf
    obtain ⟨h8, hp⟩ := fault_le h0
    rw [hf, cond_true] at hdef
    rw [this, hp]
    show ite2 (!hasP L s) _ _
    have hpl := posP_le L s
    cases hh : hasP L s with
    | false => rw [hh] at hdef; exact pins_nil hdef.symm
    | true =>
      have hlt := hasP_lt hh
      rw [hh, cond_true] at hdef
      obtain ⟨s1, _, s3, s4, _, s6⟩ := pos_slices L.length (posP L s) hpl
      have hw : wr .i64 (((posP L s : Nat) : Int) + 1) = ((posP L s + 1 : Nat) : Int) := by rw [wr_of (by omega) (by omega)]; rfl
      obtain ⟨_, s2, _, _, s5, _⟩ := pos_slices L.length (posP L s + 1) (by omega)
      rw [hw, s1, s2, s3, s4, s5, s6, inB_of (by omega) (by omega)]
      show cnd _ _
      rw [leB_of (by omega)]
      show cnd _ (cnd _ (cnd _ _))
      rw [beq_self_eq_true, leB_of (by omega)]
      show cnd _ (cnd _ _)
      rw [beq_self_eq_true, leB_of (by omega)]
      refine pins_rows hdef.symm ?_ (ins_rows (g := [⟨(L.getD (posP L s) pn0).name, (L.getD (posP L s) pn0).key, true⟩]) hpl (fun i hi => ?_) (by omega))
      · unfold chgP
        rw [List.length_append, List.length_append, List.length_take, List.length_drop]
        show _ = _ + 1 + _; omega
      · obtain rfl : i = 0 := by simpa using hi
        first | rfl | (rw [Int.toNat_natCast])
theorem pForget_c (full : Bool) (L : List Pn) (s : List UInt8) (hL : L.length ≤ 1000000000) :
    HCall Try.E 25 [.vecr full 34 L.length (pcs L), .str s] (pinsO (forgetS L s)) := by
  refine HCall.of_walkC (R := R1) (T := P3) (fun _ _ => .unroll 2) 5 rfl rfl ?_
  rw [pForget_eq, forgetS_eq]
  dsimp only
  rw [pins_of, faultPS_eq, posS_eq, hasS_eq, isPns_pcs, leB_of hL]
  obtain ⟨r, hr⟩ : ∃ r, forgetP L s = r := ⟨_, rfl⟩
  have hdef := hr
  unfold forgetP changeP at hdef
  rw [hr]
  show ite2 (faultP L != 0) _ _
  cases hf : faultP L == 0 with
  | false =>
    have : (faultP L != 0) = true := by rw [bne, hf]; rfl
    rw [this]
    rw [hf] at hdef
    exact pins_nil hdef.symm
  | true =>
    have : (faultP L != 0) = false := by rw [bne, hf]; rfl
    have h0 : faultP L = 0 := by simpa using hf
    obtain ⟨h8, hp⟩ := fault_le h0
    rw [hf, cond_true] at hdef
    rw [this, hp]
    show ite2 (!hasP L s) _ _
    have hpl := posP_le L s
    cases hh : hasP L s with
    | false => rw [hh] at hdef; exact pins_nil hdef.symm
    | true =>
      have hlt := hasP_lt hh
      rw [hh, cond_true] at hdef
      obtain ⟨s1, _, s3, s4, _, s6⟩ := pos_slices L.length (posP L s) hpl
      have hw : wr .i64 (((posP L s : Nat) : Int) + 1) = ((posP L s + 1 : Nat) : Int) := by rw [wr_of (by omega) (by omega)]; rfl
      obtain ⟨_, s2, _, _, s5, _⟩ := pos_slices L.length (posP L s + 1) (by omega)
      rw [hw, s1, s2, s3, s4, s5, s6, inB_of (by omega) (by omega)]
      show cnd _ _
      rw [leB_of (by omega)]
      show cnd _ (cnd _ (cnd _ _))
      rw [beq_self_eq_true, leB_of (by omega)]
      show cnd _ (cnd _ _)
      rw [beq_self_eq_true, leB_of (by omega)]
      refine pins_rows hdef.symm ?_ (ins_rows (g := []) hpl (fun i hi => ?_) (by omega))
      · unfold chgP
        rw [List.length_append, List.length_append, List.length_take, List.length_drop]
        show _ = _ + 0 + _; omega
      · exact absurd hi (by simp)
noncomputable def P4 : Ctr Try.E := (((((P3.add 18 (fun
    | [.vecr _ 34 n f, .str s] => some (leB n 1000000000 && isPns n f, .ret (.tup [.agg [.str (findS (pnsOf n f) s).1.name, .b8 32 (findS (pnsOf n f) s).1.key, .bool (findS (pnsOf n f) s).1.gone], .int .i64 (findS (pnsOf n f) s).2]) [])
    | _ => none) (by
      intro args pre out h hp
      split at h
      · simp only [Option.some.injEq, Prod.mk.injEq] at h
        obtain ⟨rfl, rfl⟩ := h
        simp only [Bool.and_eq_true] at hp
        obtain ⟨L, rfl, hf⟩ := isPns_iff.1 hp.2
        rw [pnsOf_eq L rfl hf]
        refine HCall.args (pFind_c false L _ (leB_iff.1 hp.1)) rfl fun ρ I w vs r => ?_
        obtain ⟨x, xs, rfl, k1, k2⟩ := RV_cons.1 r
        exact RV_cons.2 ⟨x, xs, rfl, leV_vecr (by simp) (fun i hi => leR.of_eq (pcs_ok L i).ok (hf i hi)) _ _ _ _ k1, k2⟩
      · simp at h)).add 19 (fun
    | [.vecr _ 34 n f, .str s, .b8 32 k] => some (leB n 1000000000 && isPns n f, pinsO (trustS (pnsOf n f) s k))
    | _ => none) (by
      intro args pre out h hp
      split at h
      · simp only [Option.some.injEq, Prod.mk.injEq] at h
        obtain ⟨rfl, rfl⟩ := h
        simp only [Bool.and_eq_true] at hp
        obtain ⟨L, rfl, hf⟩ := isPns_iff.1 hp.2
        rw [pnsOf_eq L rfl hf]
        refine HCall.args (pTrust_c false L _ _ (leB_iff.1 hp.1)) rfl fun ρ I w vs r => ?_
        obtain ⟨x, xs, rfl, k1, k2⟩ := RV_cons.1 r
        exact RV_cons.2 ⟨x, xs, rfl, leV_vecr (by simp) (fun i hi => leR.of_eq (pcs_ok L i).ok (hf i hi)) _ _ _ _ k1, k2⟩
      · simp at h)).add 21 (fun
    | [.vecr _ 34 n f, .str s, .b8 32 k] => some (leB n 1000000000 && isPns n f, pinsO (rotateS (pnsOf n f) s k))
    | _ => none) (by
      intro args pre out h hp
      split at h
      · simp only [Option.some.injEq, Prod.mk.injEq] at h
        obtain ⟨rfl, rfl⟩ := h
        simp only [Bool.and_eq_true] at hp
        obtain ⟨L, rfl, hf⟩ := isPns_iff.1 hp.2
        rw [pnsOf_eq L rfl hf]
        refine HCall.args (pRotate_c false L _ _ (leB_iff.1 hp.1)) rfl fun ρ I w vs r => ?_
        obtain ⟨x, xs, rfl, k1, k2⟩ := RV_cons.1 r
        exact RV_cons.2 ⟨x, xs, rfl, leV_vecr (by simp) (fun i hi => leR.of_eq (pcs_ok L i).ok (hf i hi)) _ _ _ _ k1, k2⟩
      · simp at h)).add 28 (fun
    | [.vecr _ 34 n f, .str s] => some (leB n 1000000000 && isPns n f, pinsO (revokeS (pnsOf n f) s))
    | _ => none) (by
      intro args pre out h hp
      split at h
      · simp only [Option.some.injEq, Prod.mk.injEq] at h
        obtain ⟨rfl, rfl⟩ := h
        simp only [Bool.and_eq_true] at hp
        obtain ⟨L, rfl, hf⟩ := isPns_iff.1 hp.2
        rw [pnsOf_eq L rfl hf]
        refine HCall.args (pRevoke_c false L _ (leB_iff.1 hp.1)) rfl fun ρ I w vs r => ?_
        obtain ⟨x, xs, rfl, k1, k2⟩ := RV_cons.1 r
        exact RV_cons.2 ⟨x, xs, rfl, leV_vecr (by simp) (fun i hi => leR.of_eq (pcs_ok L i).ok (hf i hi)) _ _ _ _ k1, k2⟩
      · simp at h)).add 25 (fun
    | [.vecr _ 34 n f, .str s] => some (leB n 1000000000 && isPns n f, pinsO (forgetS (pnsOf n f) s))
    | _ => none) (by
      intro args pre out h hp
      split at h
      · simp only [Option.some.injEq, Prod.mk.injEq] at h
        obtain ⟨rfl, rfl⟩ := h
        simp only [Bool.and_eq_true] at hp
        obtain ⟨L, rfl, hf⟩ := isPns_iff.1 hp.2
        rw [pnsOf_eq L rfl hf]
        refine HCall.args (pForget_c false L _ (leB_iff.1 hp.1)) rfl fun ρ I w vs r => ?_
        obtain ⟨x, xs, rfl, k1, k2⟩ := RV_cons.1 r
        exact RV_cons.2 ⟨x, xs, rfl, leV_vecr (by simp) (fun i hi => leR.of_eq (pcs_ok L i).ok (hf i hi)) _ _ _ _ k1, k2⟩
      · simp at h))
end Go.Proofs.Ytfpladpbnbpehaa

set_option linter.unusedSimpArgs false
set_option linter.unusedVariables false
namespace Go.Proofs.Ytfpladpbnbpehaa
open Go Go.V Go.Pin
set_option maxHeartbeats 0
set_option maxRecDepth 100000

theorem ukey_eq (n : Int) (K : AV → Heap → Prop) : walk Try.E (ROps.rows Try.E) (Ctr.nil Try.E).C (fun _ _ => .unroll 34) 5 17 [.int .i64 n] K = (
 let x0 : UInt32 := (UInt32.ofNat (Int.toNat (n % 4294967296)))
 let x1 : UInt8 := (UInt32.toUInt8 (shr32 x0 0))
 let x2 : UInt8 := (UInt32.toUInt8 (shr32 x0 8))
 let x3 : UInt8 := (UInt32.toUInt8 (shr32 x0 16))
 let x4 : UInt8 := (UInt32.toUInt8 (shr32 x0 24))
 K (AV.b8 32 (List.set (List.set (List.set (List.set (List.set (List.set (List.set (List.set (List.set (List.set (List.set (List.set (List.set (List.set (List.set (List.set (List.set (List.set (List.set (List.set (List.set (List.set (List.set (List.set (List.set (List.set (List.set (List.set (List.set (List.set (List.set (List.set [0, 0, 0, 0, 0, 0, 0, 0, 0, 0, 0, 0, 0, 0, 0, 0, 0, 0, 0, 0, 0, 0, 0, 0, 0, 0, 0, 0, 0, 0, 0, 0] 0 (x1 + 0)) 1 (x2 + 1)) 2 (x3 + 4)) 3 (x4 + 9)) 4 (x1 + 16)) 5 (x2 + 25)) 6 (x3 + 36)) 7 (x4 + 49)) 8 (x1 + 64)) 9 (x2 + 81)) 10 (x3 + 100)) 11 (x4 + 121)) 12 (x1 + 144)) 13 (x2 + 169)) 14 (x3 + 196)) 15 (x4 + 225)) 16 (x1 + 0)) 17 (x2 + 33)) 18 (x3 + 68)) 19 (x4 + 105)) 20 (x1 + 144)) 21 (x2 + 185)) 22 (x3 + 228)) 23 (x4 + 17)) 24 (x1 + 64)) 25 (x2 + 113)) 26 (x3 + 164)) 27 (x4 + 217)) 28 (x1 + 16)) 29 (x2 + 73)) 30 (x3 + 132)) 31 (x4 + 193))) []) := by kernel_rfl

end Go.Proofs.Ytfpladpbnbpehaa

set_option linter.unusedSimpArgs false
set_option linter.unusedVariables false
namespace Go.Proofs.Ytfpladpbnbpehaa
open Go Go.V Go.Pin
set_option maxRecDepth 100000
theorem add0 (x : UInt8) : x + 0 = x := UInt8.add_zero x
theorem ukey_c (n : Int) : HCall Try.E 17 [.int .i64 n] (.ret (.b8 32 (keyS n)) []) := by
  refine HCall.of_walk (R := ROps.rows Try.E) (T := Ctr.nil Try.E) (fun _ _ => .unroll 34) 5 rfl rfl ?_
  rw [ukey_eq, keyS_eq]
  dsimp only
  rw [add0]
  refine ⟨?_, rfl⟩
  kernel_rfl
noncomputable def Ukey : Ctr Try.E := (Ctr.nil Try.E).add 17 (fun
    | [.int .i64 n] => some (true, .ret (.b8 32 (keyS n)) [])
    | _ => none) (by
      intro args pre out h hp
      split at h
      · simp only [Option.some.injEq, Prod.mk.injEq] at h
        obtain ⟨rfl, rfl⟩ := h
        exact ukey_c _
      · simp at h)
end Go.Proofs.Ytfpladpbnbpehaa

set_option linter.unusedSimpArgs false
set_option linter.unusedVariables false
namespace Go.Proofs.Ytfpladpbnbpehaa
open Go Go.V Go.Pin
set_option maxHeartbeats 0
set_option maxRecDepth 100000

theorem unamed_eq (n : Int) (K : AV → Heap → Prop) : walk Try.E (ROps.rows Try.E) Upicked.C (fun _ _ => .unroll 34) 5 16 [.int .i64 n] K = (

 cnd (sliceOk Option.none (Option.some (wr IntKind.i64 (1 + (n % 2)))) 2)
 (K (AV.str (sliceL Option.none (Option.some (wr IntKind.i64 (1 + (n % 2)))) (List.take 2 (List.drop 0 (List.set (List.set (List.replicate 2 0) 0 (97 + (UInt8.ofNat (Int.toNat ((n % 12) % 256))))) 1 122))))) [])) := by kernel_rfl

end Go.Proofs.Ytfpladpbnbpehaa

set_option linter.unusedSimpArgs false
set_option linter.unusedVariables false
namespace Go.Proofs.Ytfpladpbnbpehaa
open Go Go.V Go.Pin
set_option maxRecDepth 100000
theorem unamed_c (n : Int) : HCall Try.E 16 [.int .i64 n] (.ret (.str (namedS n)) []) := by
  refine HCall.of_walk (R := ROps.rows Try.E) (T := Upicked) (fun _ _ => .unroll 34) 5 rfl rfl ?_
  rw [unamed_eq, namedS_eq]
  have h1 := Int.emod_nonneg n (show (2 : Int) ≠ 0 by omega)
  have h2 := Int.emod_lt_of_pos n (show (0 : Int) < 2 by omega)
  have hw : wr .i64 (1 + n % 2) = 1 + n % 2 := wr_of (by omega) (by omega)
  rw [hw]
  have hs : sliceOk none (some (1 + n % 2)) 2 = true := by
    show (nnB _ && leB (Int.toNat _) _) = true
    rw [nnB_iff.2 (by omega), leB_of (by omega)]; rfl
  rw [hs]
  exact ⟨rfl, rfl⟩
noncomputable def Unamed : Ctr Try.E := (Ctr.nil Try.E).add 16 (fun
    | [.int .i64 n] => some (true, .ret (.str (namedS n)) [])
    | _ => none) (by
      intro args pre out h hp
      split at h
      · simp only [Option.some.injEq, Prod.mk.injEq] at h
        obtain ⟨rfl, rfl⟩ := h
        exact unamed_c _
      · simp at h)
end Go.Proofs.Ytfpladpbnbpehaa

set_option linter.unusedSimpArgs false
set_option linter.unusedVariables false
namespace Go.Proofs.Ytfpladpbnbpehaa
open Go Go.V Go.Pin
noncomputable def P5 : Ctr Try.E := Ctr.or Ukey (Ctr.or Unamed (P4.nil1 [22, 18, 19, 21, 28, 25] 34))
noncomputable def pinnedL (l : List Raw3) : LPlan := .mv [11, 12] [12] (Nat × List Pn) (fun g x => Inv.upTo g x.1 ∧ faultP x.2 = 0 ∧ x.2 = pinnedN l x.1) (fun x => Inv.up x.1) (fun _ => [])
  (fun _ x => [(4, .vecr false 34 x.2.length (pcs x.2)), (5, .bool true), (13, .int .i64 ((x.1 : Nat) : Int))]) (fun _ _ => []) (fun _ => [])
end Go.Proofs.Ytfpladpbnbpehaa

set_option linter.unusedSimpArgs false
set_option linter.unusedVariables false
namespace Go.Proofs.Ytfpladpbnbpehaa
open Go Go.V Go.Pin
set_option maxHeartbeats 0
set_option maxRecDepth 100000

theorem spinned_eq (l : List Raw3) (K : AV → Heap → Prop) : walk Try.E R1 P5.C (fun _ _ => pinnedL l) 5 15 [.vecr false 4 l.length (rawsF l)] K = (
 let x0 : Nat := (List.length l)
 let x1 : Nat := (Min.min x0 20)
 let x2 : Int := ((x1 : Nat) : Int)
(∃ w0 : Nat × List Pn, ((Inv.upTo [AV.int IntKind.i64 x2] (Prod.fst w0)) ∧ ((Pin.faultP (Prod.snd w0) = 0) ∧ (Prod.snd w0 = Pin.pinnedN l (Prod.fst w0)))) ∧ ((0 = List.length (Prod.snd w0)) ∧ ((AV.bool Bool.true = AV.bool Bool.true) ∧ ((x1 = x1) ∧ ((∀ w1 : Nat, (w1 < (Min.min x0 (Int.toNat 20)) → leR [AV.int IntKind.i64 (Raw3.kind (List.getD l w1 raw0)), AV.int IntKind.i64 (Raw3.a (List.getD l w1 raw0)), AV.int IntKind.i64 (Raw3.b (List.getD l w1 raw0)), AV.str (Raw3.text (List.getD l w1 raw0))] [AV.int IntKind.i64 (Raw3.kind (List.getD l w1 raw0)), AV.int IntKind.i64 (Raw3.a (List.getD l w1 raw0)), AV.int IntKind.i64 (Raw3.b (List.getD l w1 raw0)), AV.str (Raw3.text (List.getD l w1 raw0))])) ∧ ((AV.int IntKind.i64 x2 = AV.int IntKind.i64 x2) ∧ ((AV.int IntKind.i64 0 = AV.int IntKind.i64 (((Prod.fst w0) : Nat) : Int)) ∧ True))))))) ∧ (∀ w2 : Nat × List Pn, ((Inv.upTo [AV.int IntKind.i64 x2] (Prod.fst w2)) ∧ ((Pin.faultP (Prod.snd w2) = 0) ∧ (Prod.snd w2 = Pin.pinnedN l (Prod.fst w2))) → ite2 (ltI (((Prod.fst w2) : Nat) : Int) x2)
 -- THEN
 (cnd ((inB (((Prod.fst w2) : Nat) : Int) x1) && Bool.true)
 (cnd ((leB (List.length (Prod.snd w2)) 1000000000) && (Pin.isPns (List.length (Prod.snd w2)) (Pin.pcs (Prod.snd w2))))
 (ite2 (((Raw3.kind (List.getD l (Int.toNat (((Prod.fst w2) : Nat) : Int)) raw0)) % 6) == 0)
 -- THEN
 (cnd ((leB (List.length (Prod.snd w2)) 1000000000) && (Pin.isPns (List.length (Prod.snd w2)) (Pin.pcs (Prod.snd w2))))
 (ite2 ((Prod.snd (Pin.rotateS (Pin.pnsOf (List.length (Prod.snd w2)) (Pin.pcs (Prod.snd w2))) (Pin.namedS (Raw3.a (List.getD l (Int.toNat (((Prod.fst w2) : Nat) : Int)) raw0))) (Pin.keyS ((Raw3.b (List.getD l (Int.toNat (((Prod.fst w2) : Nat) : Int)) raw0)) % 3)))) == 0)
 -- THEN
 (ite2 ((Prod.snd (Pin.rotateS (Pin.pnsOf (List.length (Prod.snd w2)) (Pin.pcs (Prod.snd w2))) (Pin.namedS (Raw3.a (List.getD l (Int.toNat (((Prod.fst w2) : Nat) : Int)) raw0))) (Pin.keyS ((Raw3.b (List.getD l (Int.toNat (((Prod.fst w2) : Nat) : Int)) raw0)) % 3)))) == 0)
 -- THEN
 ((∃ w3 : Nat × List Pn, ((((fun x => Inv.up (Prod.fst x)) w3) < ((fun x => Inv.up (Prod.fst x)) w2)) ∧ ((Inv.upTo [AV.int IntKind.i64 x2] (Prod.fst w3)) ∧ ((Pin.faultP (Prod.snd w3) = 0) ∧ (Prod.snd w3 = Pin.pinnedN l (Prod.fst w3))))) ∧ ((List.length (Prod.fst (Pin.rotateS (Pin.pnsOf (List.length (Prod.snd w2)) (Pin.pcs (Prod.snd w2))) (Pin.namedS (Raw3.a (List.getD l (Int.toNat (((Prod.fst w2) : Nat) : Int)) raw0))) (Pin.keyS ((Raw3.b (List.getD l (Int.toNat (((Prod.fst w2) : Nat) : Int)) raw0)) % 3)))) = List.length (Prod.snd w3)) ∧ ((∀ w4 : Nat, (w4 < (List.length (Prod.snd w3)) → leR [AV.str (Pin.Pn.name (List.getD (Prod.fst (Pin.rotateS (Pin.pnsOf (List.length (Prod.snd w2)) (Pin.pcs (Prod.snd w2))) (Pin.namedS (Raw3.a (List.getD l (Int.toNat (((Prod.fst w2) : Nat) : Int)) raw0))) (Pin.keyS ((Raw3.b (List.getD l (Int.toNat (((Prod.fst w2) : Nat) : Int)) raw0)) % 3)))) w4 Pin.pn0)), AV.b8 32 (Pin.Pn.key (List.getD (Prod.fst (Pin.rotateS (Pin.pnsOf (List.length (Prod.snd w2)) (Pin.pcs (Prod.snd w2))) (Pin.namedS (Raw3.a (List.getD l (Int.toNat (((Prod.fst w2) : Nat) : Int)) raw0))) (Pin.keyS ((Raw3.b (List.getD l (Int.toNat (((Prod.fst w2) : Nat) : Int)) raw0)) % 3)))) w4 Pin.pn0)), AV.bool (Pin.Pn.gone (List.getD (Prod.fst (Pin.rotateS (Pin.pnsOf (List.length (Prod.snd w2)) (Pin.pcs (Prod.snd w2))) (Pin.namedS (Raw3.a (List.getD l (Int.toNat (((Prod.fst w2) : Nat) : Int)) raw0))) (Pin.keyS ((Raw3.b (List.getD l (Int.toNat (((Prod.fst w2) : Nat) : Int)) raw0)) % 3)))) w4 Pin.pn0))] [AV.str (Pin.Pn.name (List.getD (Prod.snd w3) w4 Pin.pn0)), AV.b8 32 (Pin.Pn.key (List.getD (Prod.snd w3) w4 Pin.pn0)), AV.bool (Pin.Pn.gone (List.getD (Prod.snd w3) w4 Pin.pn0))])) ∧ ((AV.bool Bool.true = AV.bool Bool.true) ∧ ((x1 = x1) ∧ ((∀ w5 : Nat, (w5 < (Min.min x0 (Int.toNat 20)) → leR [AV.int IntKind.i64 (Raw3.kind (List.getD l w5 raw0)), AV.int IntKind.i64 (Raw3.a (List.getD l w5 raw0)), AV.int IntKind.i64 (Raw3.b (List.getD l w5 raw0)), AV.str (Raw3.text (List.getD l w5 raw0))] [AV.int IntKind.i64 (Raw3.kind (List.getD l w5 raw0)), AV.int IntKind.i64 (Raw3.a (List.getD l w5 raw0)), AV.int IntKind.i64 (Raw3.b (List.getD l w5 raw0)), AV.str (Raw3.text (List.getD l w5 raw0))])) ∧ ((AV.int IntKind.i64 x2 = AV.int IntKind.i64 x2) ∧ ((AV.int IntKind.i64 (wr IntKind.i64 ((((Prod.fst w2) : Nat) : Int) + 1)) = AV.int IntKind.i64 (((Prod.fst w3) : Nat) : Int)) ∧ True)))))))))
 -- ELSE
 (ite2 (cond Bool.false Bool.true ((Prod.snd (Pin.rotateS (Pin.pnsOf (List.length (Prod.snd w2)) (Pin.pcs (Prod.snd w2))) (Pin.namedS (Raw3.a (List.getD l (Int.toNat (((Prod.fst w2) : Nat) : Int)) raw0))) (Pin.keyS ((Raw3.b (List.getD l (Int.toNat (((Prod.fst w2) : Nat) : Int)) raw0)) % 3)))) == 13))
 -- THEN
 ((∃ w6 : Nat × List Pn, ((((fun x => Inv.up (Prod.fst x)) w6) < ((fun x => Inv.up (Prod.fst x)) w2)) ∧ ((Inv.upTo [AV.int IntKind.i64 x2] (Prod.fst w6)) ∧ ((Pin.faultP (Prod.snd w6) = 0) ∧ (Prod.snd w6 = Pin.pinnedN l (Prod.fst w6))))) ∧ ((List.length (Prod.fst (Pin.rotateS (Pin.pnsOf (List.length (Prod.snd w2)) (Pin.pcs (Prod.snd w2))) (Pin.namedS (Raw3.a (List.getD l (Int.toNat (((Prod.fst w2) : Nat) : Int)) raw0))) (Pin.keyS ((Raw3.b (List.getD l (Int.toNat (((Prod.fst w2) : Nat) : Int)) raw0)) % 3)))) = List.length (Prod.snd w6)) ∧ ((∀ w7 : Nat, (w7 < (List.length (Prod.snd w6)) → leR [AV.str (Pin.Pn.name (List.getD (Prod.fst (Pin.rotateS (Pin.pnsOf (List.length (Prod.snd w2)) (Pin.pcs (Prod.snd w2))) (Pin.namedS (Raw3.a (List.getD l (Int.toNat (((Prod.fst w2) : Nat) : Int)) raw0))) (Pin.keyS ((Raw3.b (List.getD l (Int.toNat (((Prod.fst w2) : Nat) : Int)) raw0)) % 3)))) w7 Pin.pn0)), AV.b8 32 (Pin.Pn.key (List.getD (Prod.fst (Pin.rotateS (Pin.pnsOf (List.length (Prod.snd w2)) (Pin.pcs (Prod.snd w2))) (Pin.namedS (Raw3.a (List.getD l (Int.toNat (((Prod.fst w2) : Nat) : Int)) raw0))) (Pin.keyS ((Raw3.b (List.getD l (Int.toNat (((Prod.fst w2) : Nat) : Int)) raw0)) % 3)))) w7 Pin.pn0)), AV.bool (Pin.Pn.gone (List.getD (Prod.fst (Pin.rotateS (Pin.pnsOf (List.length (Prod.snd w2)) (Pin.pcs (Prod.snd w2))) (Pin.namedS (Raw3.a (List.getD l (Int.toNat (((Prod.fst w2) : Nat) : Int)) raw0))) (Pin.keyS ((Raw3.b (List.getD l (Int.toNat (((Prod.fst w2) : Nat) : Int)) raw0)) % 3)))) w7 Pin.pn0))] [AV.str (Pin.Pn.name (List.getD (Prod.snd w6) w7 Pin.pn0)), AV.b8 32 (Pin.Pn.key (List.getD (Prod.snd w6) w7 Pin.pn0)), AV.bool (Pin.Pn.gone (List.getD (Prod.snd w6) w7 Pin.pn0))])) ∧ ((AV.bool Bool.true = AV.bool Bool.true) ∧ ((x1 = x1) ∧ ((∀ w8 : Nat, (w8 < (Min.min x0 (Int.toNat 20)) → leR [AV.int IntKind.i64 (Raw3.kind (List.getD l w8 raw0)), AV.int IntKind.i64 (Raw3.a (List.getD l w8 raw0)), AV.int IntKind.i64 (Raw3.b (List.getD l w8 raw0)), AV.str (Raw3.text (List.getD l w8 raw0))] [AV.int IntKind.i64 (Raw3.kind (List.getD l w8 raw0)), AV.int IntKind.i64 (Raw3.a (List.getD l w8 raw0)), AV.int IntKind.i64 (Raw3.b (List.getD l w8 raw0)), AV.str (Raw3.text (List.getD l w8 raw0))])) ∧ ((AV.int IntKind.i64 x2 = AV.int IntKind.i64 x2) ∧ ((AV.int IntKind.i64 (wr IntKind.i64 ((((Prod.fst w2) : Nat) : Int) + 1)) = AV.int IntKind.i64 (((Prod.fst w6) : Nat) : Int)) ∧ True)))))))))
 -- ELSE
 (ite2 (cond Bool.false Bool.true ((Prod.snd (Pin.rotateS (Pin.pnsOf (List.length (Prod.snd w2)) (Pin.pcs (Prod.snd w2))) (Pin.namedS (Raw3.a (List.getD l (Int.toNat (((Prod.fst w2) : Nat) : Int)) raw0))) (Pin.keyS ((Raw3.b (List.getD l (Int.toNat (((Prod.fst w2) : Nat) : Int)) raw0)) % 3)))) == 5))
 -- THEN
 ((∃ w9 : Nat × List Pn, ((((fun x => Inv.up (Prod.fst x)) w9) < ((fun x => Inv.up (Prod.fst x)) w2)) ∧ ((Inv.upTo [AV.int IntKind.i64 x2] (Prod.fst w9)) ∧ ((Pin.faultP (Prod.snd w9) = 0) ∧ (Prod.snd w9 = Pin.pinnedN l (Prod.fst w9))))) ∧ ((List.length (Prod.fst (Pin.rotateS (Pin.pnsOf (List.length (Prod.snd w2)) (Pin.pcs (Prod.snd w2))) (Pin.namedS (Raw3.a (List.getD l (Int.toNat (((Prod.fst w2) : Nat) : Int)) raw0))) (Pin.keyS ((Raw3.b (List.getD l (Int.toNat (((Prod.fst w2) : Nat) : Int)) raw0)) % 3)))) = List.length (Prod.snd w9)) ∧ ((∀ w10 : Nat, (w10 < (List.length (Prod.snd w9)) → leR [AV.str (Pin.Pn.name (List.getD (Prod.fst (Pin.rotateS (Pin.pnsOf (List.length (Prod.snd w2)) (Pin.pcs (Prod.snd w2))) (Pin.namedS (Raw3.a (List.getD l (Int.toNat (((Prod.fst w2) : Nat) : Int)) raw0))) (Pin.keyS ((Raw3.b (List.getD l (Int.toNat (((Prod.fst w2) : Nat) : Int)) raw0)) % 3)))) w10 Pin.pn0)), AV.b8 32 (Pin.Pn.key (List.getD (Prod.fst (Pin.rotateS (Pin.pnsOf (List.length (Prod.snd w2)) (Pin.pcs (Prod.snd w2))) (Pin.namedS (Raw3.a (List.getD l (Int.toNat (((Prod.fst w2) : Nat) : Int)) raw0))) (Pin.keyS ((Raw3.b (List.getD l (Int.toNat (((Prod.fst w2) : Nat) : Int)) raw0)) % 3)))) w10 Pin.pn0)), AV.bool (Pin.Pn.gone (List.getD (Prod.fst (Pin.rotateS (Pin.pnsOf (List.length (Prod.snd w2)) (Pin.pcs (Prod.snd w2))) (Pin.namedS (Raw3.a (List.getD l (Int.toNat (((Prod.fst w2) : Nat) : Int)) raw0))) (Pin.keyS ((Raw3.b (List.getD l (Int.toNat (((Prod.fst w2) : Nat) : Int)) raw0)) % 3)))) w10 Pin.pn0))] [AV.str (Pin.Pn.name (List.getD (Prod.snd w9) w10 Pin.pn0)), AV.b8 32 (Pin.Pn.key (List.getD (Prod.snd w9) w10 Pin.pn0)), AV.bool (Pin.Pn.gone (List.getD (Prod.snd w9) w10 Pin.pn0))])) ∧ ((AV.bool Bool.true = AV.bool Bool.true) ∧ ((x1 = x1) ∧ ((∀ w11 : Nat, (w11 < (Min.min x0 (Int.toNat 20)) → leR [AV.int IntKind.i64 (Raw3.kind (List.getD l w11 raw0)), AV.int IntKind.i64 (Raw3.a (List.getD l w11 raw0)), AV.int IntKind.i64 (Raw3.b (List.getD l w11 raw0)), AV.str (Raw3.text (List.getD l w11 raw0))] [AV.int IntKind.i64 (Raw3.kind (List.getD l w11 raw0)), AV.int IntKind.i64 (Raw3.a (List.getD l w11 raw0)), AV.int IntKind.i64 (Raw3.b (List.getD l w11 raw0)), AV.str (Raw3.text (List.getD l w11 raw0))])) ∧ ((AV.int IntKind.i64 x2 = AV.int IntKind.i64 x2) ∧ ((AV.int IntKind.i64 (wr IntKind.i64 ((((Prod.fst w2) : Nat) : Int) + 1)) = AV.int IntKind.i64 (((Prod.fst w9) : Nat) : Int)) ∧ True)))))))))
 -- ELSE
 ((∃ w12 : Nat × List Pn, ((((fun x => Inv.up (Prod.fst x)) w12) < ((fun x => Inv.up (Prod.fst x)) w2)) ∧ ((Inv.upTo [AV.int IntKind.i64 x2] (Prod.fst w12)) ∧ ((Pin.faultP (Prod.snd w12) = 0) ∧ (Prod.snd w12 = Pin.pinnedN l (Prod.fst w12))))) ∧ ((List.length (Prod.fst (Pin.rotateS (Pin.pnsOf (List.length (Prod.snd w2)) (Pin.pcs (Prod.snd w2))) (Pin.namedS (Raw3.a (List.getD l (Int.toNat (((Prod.fst w2) : Nat) : Int)) raw0))) (Pin.keyS ((Raw3.b (List.getD l (Int.toNat (((Prod.fst w2) : Nat) : Int)) raw0)) % 3)))) = List.length (Prod.snd w12)) ∧ ((∀ w13 : Nat, (w13 < (List.length (Prod.snd w12)) → leR [AV.str (Pin.Pn.name (List.getD (Prod.fst (Pin.rotateS (Pin.pnsOf (List.length (Prod.snd w2)) (Pin.pcs (Prod.snd w2))) (Pin.namedS (Raw3.a (List.getD l (Int.toNat (((Prod.fst w2) : Nat) : Int)) raw0))) (Pin.keyS ((Raw3.b (List.getD l (Int.toNat (((Prod.fst w2) : Nat) : Int)) raw0)) % 3)))) w13 Pin.pn0)), AV.b8 32 (Pin.Pn.key (List.getD (Prod.fst (Pin.rotateS (Pin.pnsOf (List.length (Prod.snd w2)) (Pin.pcs (Prod.snd w2))) (Pin.namedS (Raw3.a (List.getD l (Int.toNat (((Prod.fst w2) : Nat) : Int)) raw0))) (Pin.keyS ((Raw3.b (List.getD l (Int.toNat (((Prod.fst w2) : Nat) : Int)) raw0)) % 3)))) w13 Pin.pn0)), AV.bool (Pin.Pn.gone (List.getD (Prod.fst (Pin.rotateS (Pin.pnsOf (List.length (Prod.snd w2)) (Pin.pcs (Prod.snd w2))) (Pin.namedS (Raw3.a (List.getD l (Int.toNat (((Prod.fst w2) : Nat) : Int)) raw0))) (Pin.keyS ((Raw3.b (List.getD l (Int.toNat (((Prod.fst w2) : Nat) : Int)) raw0)) % 3)))) w13 Pin.pn0))] [AV.str (Pin.Pn.name (List.getD (Prod.snd w12) w13 Pin.pn0)), AV.b8 32 (Pin.Pn.key (List.getD (Prod.snd w12) w13 Pin.pn0)), AV.bool (Pin.Pn.gone (List.getD (Prod.snd w12) w13 Pin.pn0))])) ∧ ((AV.bool (cond Bool.true (cond Bool.false Bool.true ((Prod.snd (Pin.rotateS (Pin.pnsOf (List.length (Prod.snd w2)) (Pin.pcs (Prod.snd w2))) (Pin.namedS (Raw3.a (List.getD l (Int.toNat (((Prod.fst w2) : Nat) : Int)) raw0))) (Pin.keyS ((Raw3.b (List.getD l (Int.toNat (((Prod.fst w2) : Nat) : Int)) raw0)) % 3)))) == 8)) Bool.false) = AV.bool Bool.true) ∧ ((x1 = x1) ∧ ((∀ w14 : Nat, (w14 < (Min.min x0 (Int.toNat 20)) → leR [AV.int IntKind.i64 (Raw3.kind (List.getD l w14 raw0)), AV.int IntKind.i64 (Raw3.a (List.getD l w14 raw0)), AV.int IntKind.i64 (Raw3.b (List.getD l w14 raw0)), AV.str (Raw3.text (List.getD l w14 raw0))] [AV.int IntKind.i64 (Raw3.kind (List.getD l w14 raw0)), AV.int IntKind.i64 (Raw3.a (List.getD l w14 raw0)), AV.int IntKind.i64 (Raw3.b (List.getD l w14 raw0)), AV.str (Raw3.text (List.getD l w14 raw0))])) ∧ ((AV.int IntKind.i64 x2 = AV.int IntKind.i64 x2) ∧ ((AV.int IntKind.i64 (wr IntKind.i64 ((((Prod.fst w2) : Nat) : Int) + 1)) = AV.int IntKind.i64 (((Prod.fst w12) : Nat) : Int)) ∧ True))))))))))))
 -- ELSE
 (ite2 ((Prod.snd (Pin.rotateS (Pin.pnsOf (List.length (Prod.snd w2)) (Pin.pcs (Prod.snd w2))) (Pin.namedS (Raw3.a (List.getD l (Int.toNat (((Prod.fst w2) : Nat) : Int)) raw0))) (Pin.keyS ((Raw3.b (List.getD l (Int.toNat (((Prod.fst w2) : Nat) : Int)) raw0)) % 3)))) == 0)
 -- THEN
 ((∃ w15 : Nat × List Pn, ((((fun x => Inv.up (Prod.fst x)) w15) < ((fun x => Inv.up (Prod.fst x)) w2)) ∧ ((Inv.upTo [AV.int IntKind.i64 x2] (Prod.fst w15)) ∧ ((Pin.faultP (Prod.snd w15) = 0) ∧ (Prod.snd w15 = Pin.pinnedN l (Prod.fst w15))))) ∧ ((List.length (Prod.snd w2) = List.length (Prod.snd w15)) ∧ ((∀ w16 : Nat, (w16 < (List.length (Prod.snd w15)) → leR [AV.str (Pin.Pn.name (List.getD (Prod.snd w2) w16 Pin.pn0)), AV.b8 32 (Pin.Pn.key (List.getD (Prod.snd w2) w16 Pin.pn0)), AV.bool (Pin.Pn.gone (List.getD (Prod.snd w2) w16 Pin.pn0))] [AV.str (Pin.Pn.name (List.getD (Prod.snd w15) w16 Pin.pn0)), AV.b8 32 (Pin.Pn.key (List.getD (Prod.snd w15) w16 Pin.pn0)), AV.bool (Pin.Pn.gone (List.getD (Prod.snd w15) w16 Pin.pn0))])) ∧ ((AV.bool Bool.true = AV.bool Bool.true) ∧ ((x1 = x1) ∧ ((∀ w17 : Nat, (w17 < (Min.min x0 (Int.toNat 20)) → leR [AV.int IntKind.i64 (Raw3.kind (List.getD l w17 raw0)), AV.int IntKind.i64 (Raw3.a (List.getD l w17 raw0)), AV.int IntKind.i64 (Raw3.b (List.getD l w17 raw0)), AV.str (Raw3.text (List.getD l w17 raw0))] [AV.int IntKind.i64 (Raw3.kind (List.getD l w17 raw0)), AV.int IntKind.i64 (Raw3.a (List.getD l w17 raw0)), AV.int IntKind.i64 (Raw3.b (List.getD l w17 raw0)), AV.str (Raw3.text (List.getD l w17 raw0))])) ∧ ((AV.int IntKind.i64 x2 = AV.int IntKind.i64 x2) ∧ ((AV.int IntKind.i64 (wr IntKind.i64 ((((Prod.fst w2) : Nat) : Int) + 1)) = AV.int IntKind.i64 (((Prod.fst w15) : Nat) : Int)) ∧ True)))))))))
 -- ELSE
 (ite2 (cond Bool.false Bool.true ((Prod.snd (Pin.rotateS (Pin.pnsOf (List.length (Prod.snd w2)) (Pin.pcs (Prod.snd w2))) (Pin.namedS (Raw3.a (List.getD l (Int.toNat (((Prod.fst w2) : Nat) : Int)) raw0))) (Pin.keyS ((Raw3.b (List.getD l (Int.toNat (((Prod.fst w2) : Nat) : Int)) raw0)) % 3)))) == 13))
 -- THEN
 ((∃ w18 : Nat × List Pn, ((((fun x => Inv.up (Prod.fst x)) w18) < ((fun x => Inv.up (Prod.fst x)) w2)) ∧ ((Inv.upTo [AV.int IntKind.i64 x2] (Prod.fst w18)) ∧ ((Pin.faultP (Prod.snd w18) = 0) ∧ (Prod.snd w18 = Pin.pinnedN l (Prod.fst w18))))) ∧ ((List.length (Prod.snd w2) = List.length (Prod.snd w18)) ∧ ((∀ w19 : Nat, (w19 < (List.length (Prod.snd w18)) → leR [AV.str (Pin.Pn.name (List.getD (Prod.snd w2) w19 Pin.pn0)), AV.b8 32 (Pin.Pn.key (List.getD (Prod.snd w2) w19 Pin.pn0)), AV.bool (Pin.Pn.gone (List.getD (Prod.snd w2) w19 Pin.pn0))] [AV.str (Pin.Pn.name (List.getD (Prod.snd w18) w19 Pin.pn0)), AV.b8 32 (Pin.Pn.key (List.getD (Prod.snd w18) w19 Pin.pn0)), AV.bool (Pin.Pn.gone (List.getD (Prod.snd w18) w19 Pin.pn0))])) ∧ ((AV.bool Bool.true = AV.bool Bool.true) ∧ ((x1 = x1) ∧ ((∀ w20 : Nat, (w20 < (Min.min x0 (Int.toNat 20)) → leR [AV.int IntKind.i64 (Raw3.kind (List.getD l w20 raw0)), AV.int IntKind.i64 (Raw3.a (List.getD l w20 raw0)), AV.int IntKind.i64 (Raw3.b (List.getD l w20 raw0)), AV.str (Raw3.text (List.getD l w20 raw0))] [AV.int IntKind.i64 (Raw3.kind (List.getD l w20 raw0)), AV.int IntKind.i64 (Raw3.a (List.getD l w20 raw0)), AV.int IntKind.i64 (Raw3.b (List.getD l w20 raw0)), AV.str (Raw3.text (List.getD l w20 raw0))])) ∧ ((AV.int IntKind.i64 x2 = AV.int IntKind.i64 x2) ∧ ((AV.int IntKind.i64 (wr IntKind.i64 ((((Prod.fst w2) : Nat) : Int) + 1)) = AV.int IntKind.i64 (((Prod.fst w18) : Nat) : Int)) ∧ True)))))))))
 -- ELSE
 (ite2 (cond Bool.false Bool.true ((Prod.snd (Pin.rotateS (Pin.pnsOf (List.length (Prod.snd w2)) (Pin.pcs (Prod.snd w2))) (Pin.namedS (Raw3.a (List.getD l (Int.toNat (((Prod.fst w2) : Nat) : Int)) raw0))) (Pin.keyS ((Raw3.b (List.getD l (Int.toNat (((Prod.fst w2) : Nat) : Int)) raw0)) % 3)))) == 5))
 -- THEN
 ((∃ w21 : Nat × List Pn, ((((fun x => Inv.up (Prod.fst x)) w21) < ((fun x => Inv.up (Prod.fst x)) w2)) ∧ ((Inv.upTo [AV.int IntKind.i64 x2] (Prod.fst w21)) ∧ ((Pin.faultP (Prod.snd w21) = 0) ∧ (Prod.snd w21 = Pin.pinnedN l (Prod.fst w21))))) ∧ ((List.length (Prod.snd w2) = List.length (Prod.snd w21)) ∧ ((∀ w22 : Nat, (w22 < (List.length (Prod.snd w21)) → leR [AV.str (Pin.Pn.name (List.getD (Prod.snd w2) w22 Pin.pn0)), AV.b8 32 (Pin.Pn.key (List.getD (Prod.snd w2) w22 Pin.pn0)), AV.bool (Pin.Pn.gone (List.getD (Prod.snd w2) w22 Pin.pn0))] [AV.str (Pin.Pn.name (List.getD (Prod.snd w21) w22 Pin.pn0)), AV.b8 32 (Pin.Pn.key (List.getD (Prod.snd w21) w22 Pin.pn0)), AV.bool (Pin.Pn.gone (List.getD (Prod.snd w21) w22 Pin.pn0))])) ∧ ((AV.bool Bool.true = AV.bool Bool.true) ∧ ((x1 = x1) ∧ ((∀ w23 : Nat, (w23 < (Min.min x0 (Int.toNat 20)) → leR [AV.int IntKind.i64 (Raw3.kind (List.getD l w23 raw0)), AV.int IntKind.i64 (Raw3.a (List.getD l w23 raw0)), AV.int IntKind.i64 (Raw3.b (List.getD l w23 raw0)), AV.str (Raw3.text (List.getD l w23 raw0))] [AV.int IntKind.i64 (Raw3.kind (List.getD l w23 raw0)), AV.int IntKind.i64 (Raw3.a (List.getD l w23 raw0)), AV.int IntKind.i64 (Raw3.b (List.getD l w23 raw0)), AV.str (Raw3.text (List.getD l w23 raw0))])) ∧ ((AV.int IntKind.i64 x2 = AV.int IntKind.i64 x2) ∧ ((AV.int IntKind.i64 (wr IntKind.i64 ((((Prod.fst w2) : Nat) : Int) + 1)) = AV.int IntKind.i64 (((Prod.fst w21) : Nat) : Int)) ∧ True)))))))))
 -- ELSE
 ((∃ w24 : Nat × List Pn, ((((fun x => Inv.up (Prod.fst x)) w24) < ((fun x => Inv.up (Prod.fst x)) w2)) ∧ ((Inv.upTo [AV.int IntKind.i64 x2] (Prod.fst w24)) ∧ ((Pin.faultP (Prod.snd w24) = 0) ∧ (Prod.snd w24 = Pin.pinnedN l (Prod.fst w24))))) ∧ ((List.length (Prod.snd w2) = List.length (Prod.snd w24)) ∧ ((∀ w25 : Nat, (w25 < (List.length (Prod.snd w24)) → leR [AV.str (Pin.Pn.name (List.getD (Prod.snd w2) w25 Pin.pn0)), AV.b8 32 (Pin.Pn.key (List.getD (Prod.snd w2) w25 Pin.pn0)), AV.bool (Pin.Pn.gone (List.getD (Prod.snd w2) w25 Pin.pn0))] [AV.str (Pin.Pn.name (List.getD (Prod.snd w24) w25 Pin.pn0)), AV.b8 32 (Pin.Pn.key (List.getD (Prod.snd w24) w25 Pin.pn0)), AV.bool (Pin.Pn.gone (List.getD (Prod.snd w24) w25 Pin.pn0))])) ∧ ((AV.bool (cond Bool.true (cond Bool.false Bool.true ((Prod.snd (Pin.rotateS (Pin.pnsOf (List.length (Prod.snd w2)) (Pin.pcs (Prod.snd w2))) (Pin.namedS (Raw3.a (List.getD l (Int.toNat (((Prod.fst w2) : Nat) : Int)) raw0))) (Pin.keyS ((Raw3.b (List.getD l (Int.toNat (((Prod.fst w2) : Nat) : Int)) raw0)) % 3)))) == 8)) Bool.false) = AV.bool Bool.true) ∧ ((x1 = x1) ∧ ((∀ w26 : Nat, (w26 < (Min.min x0 (Int.toNat 20)) → leR [AV.int IntKind.i64 (Raw3.kind (List.getD l w26 raw0)), AV.int IntKind.i64 (Raw3.a (List.getD l w26 raw0)), AV.int IntKind.i64 (Raw3.b (List.getD l w26 raw0)), AV.str (Raw3.text (List.getD l w26 raw0))] [AV.int IntKind.i64 (Raw3.kind (List.getD l w26 raw0)), AV.int IntKind.i64 (Raw3.a (List.getD l w26 raw0)), AV.int IntKind.i64 (Raw3.b (List.getD l w26 raw0)), AV.str (Raw3.text (List.getD l w26 raw0))])) ∧ ((AV.int IntKind.i64 x2 = AV.int IntKind.i64 x2) ∧ ((AV.int IntKind.i64 (wr IntKind.i64 ((((Prod.fst w2) : Nat) : Int) + 1)) = AV.int IntKind.i64 (((Prod.fst w24) : Nat) : Int)) ∧ True))))))))))))))
 -- ELSE
 (ite2 (((Raw3.kind (List.getD l (Int.toNat (((Prod.fst w2) : Nat) : Int)) raw0)) % 6) == 1)
 -- THEN
 (cnd ((leB (List.length (Prod.snd w2)) 1000000000) && (Pin.isPns (List.length (Prod.snd w2)) (Pin.pcs (Prod.snd w2))))
 (ite2 ((Prod.snd (Pin.revokeS (Pin.pnsOf (List.length (Prod.snd w2)) (Pin.pcs (Prod.snd w2))) (Pin.namedS (Raw3.a (List.getD l (Int.toNat (((Prod.fst w2) : Nat) : Int)) raw0))))) == 0)
 -- THEN
 (ite2 ((Prod.snd (Pin.revokeS (Pin.pnsOf (List.length (Prod.snd w2)) (Pin.pcs (Prod.snd w2))) (Pin.namedS (Raw3.a (List.getD l (Int.toNat (((Prod.fst w2) : Nat) : Int)) raw0))))) == 0)
 -- THEN
 ((∃ w27 : Nat × List Pn, ((((fun x => Inv.up (Prod.fst x)) w27) < ((fun x => Inv.up (Prod.fst x)) w2)) ∧ ((Inv.upTo [AV.int IntKind.i64 x2] (Prod.fst w27)) ∧ ((Pin.faultP (Prod.snd w27) = 0) ∧ (Prod.snd w27 = Pin.pinnedN l (Prod.fst w27))))) ∧ ((List.length (Prod.fst (Pin.revokeS (Pin.pnsOf (List.length (Prod.snd w2)) (Pin.pcs (Prod.snd w2))) (Pin.namedS (Raw3.a (List.getD l (Int.toNat (((Prod.fst w2) : Nat) : Int)) raw0))))) = List.length (Prod.snd w27)) ∧ ((∀ w28 : Nat, (w28 < (List.length (Prod.snd w27)) → leR [AV.str (Pin.Pn.name (List.getD (Prod.fst (Pin.revokeS (Pin.pnsOf (List.length (Prod.snd w2)) (Pin.pcs (Prod.snd w2))) (Pin.namedS (Raw3.a (List.getD l (Int.toNat (((Prod.fst w2) : Nat) : Int)) raw0))))) w28 Pin.pn0)), AV.b8 32 (Pin.Pn.key (List.getD (Prod.fst (Pin.revokeS (Pin.pnsOf (List.length (Prod.snd w2)) (Pin.pcs (Prod.snd w2))) (Pin.namedS (Raw3.a (List.getD l (Int.toNat (((Prod.fst w2) : Nat) : Int)) raw0))))) w28 Pin.pn0)), AV.bool (Pin.Pn.gone (List.getD (Prod.fst (Pin.revokeS (Pin.pnsOf (List.length (Prod.snd w2)) (Pin.pcs (Prod.snd w2))) (Pin.namedS (Raw3.a (List.getD l (Int.toNat (((Prod.fst w2) : Nat) : Int)) raw0))))) w28 Pin.pn0))] [AV.str (Pin.Pn.name (List.getD (Prod.snd w27) w28 Pin.pn0)), AV.b8 32 (Pin.Pn.key (List.getD (Prod.snd w27) w28 Pin.pn0)), AV.bool (Pin.Pn.gone (List.getD (Prod.snd w27) w28 Pin.pn0))])) ∧ ((AV.bool Bool.true = AV.bool Bool.true) ∧ ((x1 = x1) ∧ ((∀ w29 : Nat, (w29 < (Min.min x0 (Int.toNat 20)) → leR [AV.int IntKind.i64 (Raw3.kind (List.getD l w29 raw0)), AV.int IntKind.i64 (Raw3.a (List.getD l w29 raw0)), AV.int IntKind.i64 (Raw3.b (List.getD l w29 raw0)), AV.str (Raw3.text (List.getD l w29 raw0))] [AV.int IntKind.i64 (Raw3.kind (List.getD l w29 raw0)), AV.int IntKind.i64 (Raw3.a (List.getD l w29 raw0)), AV.int IntKind.i64 (Raw3.b (List.getD l w29 raw0)), AV.str (Raw3.text (List.getD l w29 raw0))])) ∧ ((AV.int IntKind.i64 x2 = AV.int IntKind.i64 x2) ∧ ((AV.int IntKind.i64 (wr IntKind.i64 ((((Prod.fst w2) : Nat) : Int) + 1)) = AV.int IntKind.i64 (((Prod.fst w27) : Nat) : Int)) ∧ True)))))))))
 -- ELSE
 (ite2 (cond Bool.false Bool.true ((Prod.snd (Pin.revokeS (Pin.pnsOf (List.length (Prod.snd w2)) (Pin.pcs (Prod.snd w2))) (Pin.namedS (Raw3.a (List.getD l (Int.toNat (((Prod.fst w2) : Nat) : Int)) raw0))))) == 13))
 -- THEN
 ((∃ w30 : Nat × List Pn, ((((fun x => Inv.up (Prod.fst x)) w30) < ((fun x => Inv.up (Prod.fst x)) w2)) ∧ ((Inv.upTo [AV.int IntKind.i64 x2] (Prod.fst w30)) ∧ ((Pin.faultP (Prod.snd w30) = 0) ∧ (Prod.snd w30 = Pin.pinnedN l (Prod.fst w30))))) ∧ ((List.length (Prod.fst (Pin.revokeS (Pin.pnsOf (List.length (Prod.snd w2)) (Pin.pcs (Prod.snd w2))) (Pin.namedS (Raw3.a (List.getD l (Int.toNat (((Prod.fst w2) : Nat) : Int)) raw0))))) = List.length (Prod.snd w30)) ∧ ((∀ w31 : Nat, (w31 < (List.length (Prod.snd w30)) → leR [AV.str (Pin.Pn.name (List.getD (Prod.fst (Pin.revokeS (Pin.pnsOf (List.length (Prod.snd w2)) (Pin.pcs (Prod.snd w2))) (Pin.namedS (Raw3.a (List.getD l (Int.toNat (((Prod.fst w2) : Nat) : Int)) raw0))))) w31 Pin.pn0)), AV.b8 32 (Pin.Pn.key (List.getD (Prod.fst (Pin.revokeS (Pin.pnsOf (List.length (Prod.snd w2)) (Pin.pcs (Prod.snd w2))) (Pin.namedS (Raw3.a (List.getD l (Int.toNat (((Prod.fst w2) : Nat) : Int)) raw0))))) w31 Pin.pn0)), AV.bool (Pin.Pn.gone (List.getD (Prod.fst (Pin.revokeS (Pin.pnsOf (List.length (Prod.snd w2)) (Pin.pcs (Prod.snd w2))) (Pin.namedS (Raw3.a (List.getD l (Int.toNat (((Prod.fst w2) : Nat) : Int)) raw0))))) w31 Pin.pn0))] [AV.str (Pin.Pn.name (List.getD (Prod.snd w30) w31 Pin.pn0)), AV.b8 32 (Pin.Pn.key (List.getD (Prod.snd w30) w31 Pin.pn0)), AV.bool (Pin.Pn.gone (List.getD (Prod.snd w30) w31 Pin.pn0))])) ∧ ((AV.bool Bool.true = AV.bool Bool.true) ∧ ((x1 = x1) ∧ ((∀ w32 : Nat, (w32 < (Min.min x0 (Int.toNat 20)) → leR [AV.int IntKind.i64 (Raw3.kind (List.getD l w32 raw0)), AV.int IntKind.i64 (Raw3.a (List.getD l w32 raw0)), AV.int IntKind.i64 (Raw3.b (List.getD l w32 raw0)), AV.str (Raw3.text (List.getD l w32 raw0))] [AV.int IntKind.i64 (Raw3.kind (List.getD l w32 raw0)), AV.int IntKind.i64 (Raw3.a (List.getD l w32 raw0)), AV.int IntKind.i64 (Raw3.b (List.getD l w32 raw0)), AV.str (Raw3.text (List.getD l w32 raw0))])) ∧ ((AV.int IntKind.i64 x2 = AV.int IntKind.i64 x2) ∧ ((AV.int IntKind.i64 (wr IntKind.i64 ((((Prod.fst w2) : Nat) : Int) + 1)) = AV.int IntKind.i64 (((Prod.fst w30) : Nat) : Int)) ∧ True)))))))))
 -- ELSE
 (ite2 (cond Bool.false Bool.true ((Prod.snd (Pin.revokeS (Pin.pnsOf (List.length (Prod.snd w2)) (Pin.pcs (Prod.snd w2))) (Pin.namedS (Raw3.a (List.getD l (Int.toNat (((Prod.fst w2) : Nat) : Int)) raw0))))) == 5))
 -- THEN
 ((∃ w33 : Nat × List Pn, ((((fun x => Inv.up (Prod.fst x)) w33) < ((fun x => Inv.up (Prod.fst x)) w2)) ∧ ((Inv.upTo [AV.int IntKind.i64 x2] (Prod.fst w33)) ∧ ((Pin.faultP (Prod.snd w33) = 0) ∧ (Prod.snd w33 = Pin.pinnedN l (Prod.fst w33))))) ∧ ((List.length (Prod.fst (Pin.revokeS (Pin.pnsOf (List.length (Prod.snd w2)) (Pin.pcs (Prod.snd w2))) (Pin.namedS (Raw3.a (List.getD l (Int.toNat (((Prod.fst w2) : Nat) : Int)) raw0))))) = List.length (Prod.snd w33)) ∧ ((∀ w34 : Nat, (w34 < (List.length (Prod.snd w33)) → leR [AV.str (Pin.Pn.name (List.getD (Prod.fst (Pin.revokeS (Pin.pnsOf (List.length (Prod.snd w2)) (Pin.pcs (Prod.snd w2))) (Pin.namedS (Raw3.a (List.getD l (Int.toNat (((Prod.fst w2) : Nat) : Int)) raw0))))) w34 Pin.pn0)), AV.b8 32 (Pin.Pn.key (List.getD (Prod.fst (Pin.revokeS (Pin.pnsOf (List.length (Prod.snd w2)) (Pin.pcs (Prod.snd w2))) (Pin.namedS (Raw3.a (List.getD l (Int.toNat (((Prod.fst w2) : Nat) : Int)) raw0))))) w34 Pin.pn0)), AV.bool (Pin.Pn.gone (List.getD (Prod.fst (Pin.revokeS (Pin.pnsOf (List.length (Prod.snd w2)) (Pin.pcs (Prod.snd w2))) (Pin.namedS (Raw3.a (List.getD l (Int.toNat (((Prod.fst w2) : Nat) : Int)) raw0))))) w34 Pin.pn0))] [AV.str (Pin.Pn.name (List.getD (Prod.snd w33) w34 Pin.pn0)), AV.b8 32 (Pin.Pn.key (List.getD (Prod.snd w33) w34 Pin.pn0)), AV.bool (Pin.Pn.gone (List.getD (Prod.snd w33) w34 Pin.pn0))])) ∧ ((AV.bool Bool.true = AV.bool Bool.true) ∧ ((x1 = x1) ∧ ((∀ w35 : Nat, (w35 < (Min.min x0 (Int.toNat 20)) → leR [AV.int IntKind.i64 (Raw3.kind (List.getD l w35 raw0)), AV.int IntKind.i64 (Raw3.a (List.getD l w35 raw0)), AV.int IntKind.i64 (Raw3.b (List.getD l w35 raw0)), AV.str (Raw3.text (List.getD l w35 raw0))] [AV.int IntKind.i64 (Raw3.kind (List.getD l w35 raw0)), AV.int IntKind.i64 (Raw3.a (List.getD l w35 raw0)), AV.int IntKind.i64 (Raw3.b (List.getD l w35 raw0)), AV.str (Raw3.text (List.getD l w35 raw0))])) ∧ ((AV.int IntKind.i64 x2 = AV.int IntKind.i64 x2) ∧ ((AV.int IntKind.i64 (wr IntKind.i64 ((((Prod.fst w2) : Nat) : Int) + 1)) = AV.int IntKind.i64 (((Prod.fst w33) : Nat) : Int)) ∧ True)))))))))
 -- ELSE
 ((∃ w36 : Nat × List Pn, ((((fun x => Inv.up (Prod.fst x)) w36) < ((fun x => Inv.up (Prod.fst x)) w2)) ∧ ((Inv.upTo [AV.int IntKind.i64 x2] (Prod.fst w36)) ∧ ((Pin.faultP (Prod.snd w36) = 0) ∧ (Prod.snd w36 = Pin.pinnedN l (Prod.fst w36))))) ∧ ((List.length (Prod.fst (Pin.revokeS (Pin.pnsOf (List.length (Prod.snd w2)) (Pin.pcs (Prod.snd w2))) (Pin.namedS (Raw3.a (List.getD l (Int.toNat (((Prod.fst w2) : Nat) : Int)) raw0))))) = List.length (Prod.snd w36)) ∧ ((∀ w37 : Nat, (w37 < (List.length (Prod.snd w36)) → leR [AV.str (Pin.Pn.name (List.getD (Prod.fst (Pin.revokeS (Pin.pnsOf (List.length (Prod.snd w2)) (Pin.pcs (Prod.snd w2))) (Pin.namedS (Raw3.a (List.getD l (Int.toNat (((Prod.fst w2) : Nat) : Int)) raw0))))) w37 Pin.pn0)), AV.b8 32 (Pin.Pn.key (List.getD (Prod.fst (Pin.revokeS (Pin.pnsOf (List.length (Prod.snd w2)) (Pin.pcs (Prod.snd w2))) (Pin.namedS (Raw3.a (List.getD l (Int.toNat (((Prod.fst w2) : Nat) : Int)) raw0))))) w37 Pin.pn0)), AV.bool (Pin.Pn.gone (List.getD (Prod.fst (Pin.revokeS (Pin.pnsOf (List.length (Prod.snd w2)) (Pin.pcs (Prod.snd w2))) (Pin.namedS (Raw3.a (List.getD l (Int.toNat (((Prod.fst w2) : Nat) : Int)) raw0))))) w37 Pin.pn0))] [AV.str (Pin.Pn.name (List.getD (Prod.snd w36) w37 Pin.pn0)), AV.b8 32 (Pin.Pn.key (List.getD (Prod.snd w36) w37 Pin.pn0)), AV.bool (Pin.Pn.gone (List.getD (Prod.snd w36) w37 Pin.pn0))])) ∧ ((AV.bool (cond Bool.true (cond Bool.false Bool.true ((Prod.snd (Pin.revokeS (Pin.pnsOf (List.length (Prod.snd w2)) (Pin.pcs (Prod.snd w2))) (Pin.namedS (Raw3.a (List.getD l (Int.toNat (((Prod.fst w2) : Nat) : Int)) raw0))))) == 8)) Bool.false) = AV.bool Bool.true) ∧ ((x1 = x1) ∧ ((∀ w38 : Nat, (w38 < (Min.min x0 (Int.toNat 20)) → leR [AV.int IntKind.i64 (Raw3.kind (List.getD l w38 raw0)), AV.int IntKind.i64 (Raw3.a (List.getD l w38 raw0)), AV.int IntKind.i64 (Raw3.b (List.getD l w38 raw0)), AV.str (Raw3.text (List.getD l w38 raw0))] [AV.int IntKind.i64 (Raw3.kind (List.getD l w38 raw0)), AV.int IntKind.i64 (Raw3.a (List.getD l w38 raw0)), AV.int IntKind.i64 (Raw3.b (List.getD l w38 raw0)), AV.str (Raw3.text (List.getD l w38 raw0))])) ∧ ((AV.int IntKind.i64 x2 = AV.int IntKind.i64 x2) ∧ ((AV.int IntKind.i64 (wr IntKind.i64 ((((Prod.fst w2) : Nat) : Int) + 1)) = AV.int IntKind.i64 (((Prod.fst w36) : Nat) : Int)) ∧ True))))))))))))
 -- ELSE
 (ite2 ((Prod.snd (Pin.revokeS (Pin.pnsOf (List.length (Prod.snd w2)) (Pin.pcs (Prod.snd w2))) (Pin.namedS (Raw3.a (List.getD l (Int.toNat (((Prod.fst w2) : Nat) : Int)) raw0))))) == 0)
 -- THEN
 ((∃ w39 : Nat × List Pn, ((((fun x => Inv.up (Prod.fst x)) w39) < ((fun x => Inv.up (Prod.fst x)) w2)) ∧ ((Inv.upTo [AV.int IntKind.i64 x2] (Prod.fst w39)) ∧ ((Pin.faultP (Prod.snd w39) = 0) ∧ (Prod.snd w39 = Pin.pinnedN l (Prod.fst w39))))) ∧ ((List.length (Prod.snd w2) = List.length (Prod.snd w39)) ∧ ((∀ w40 : Nat, (w40 < (List.length (Prod.snd w39)) → leR [AV.str (Pin.Pn.name (List.getD (Prod.snd w2) w40 Pin.pn0)), AV.b8 32 (Pin.Pn.key (List.getD (Prod.snd w2) w40 Pin.pn0)), AV.bool (Pin.Pn.gone (List.getD (Prod.snd w2) w40 Pin.pn0))] [AV.str (Pin.Pn.name (List.getD (Prod.snd w39) w40 Pin.pn0)), AV.b8 32 (Pin.Pn.key (List.getD (Prod.snd w39) w40 Pin.pn0)), AV.bool (Pin.Pn.gone (List.getD (Prod.snd w39) w40 Pin.pn0))])) ∧ ((AV.bool Bool.true = AV.bool Bool.true) ∧ ((x1 = x1) ∧ ((∀ w41 : Nat, (w41 < (Min.min x0 (Int.toNat 20)) → leR [AV.int IntKind.i64 (Raw3.kind (List.getD l w41 raw0)), AV.int IntKind.i64 (Raw3.a (List.getD l w41 raw0)), AV.int IntKind.i64 (Raw3.b (List.getD l w41 raw0)), AV.str (Raw3.text (List.getD l w41 raw0))] [AV.int IntKind.i64 (Raw3.kind (List.getD l w41 raw0)), AV.int IntKind.i64 (Raw3.a (List.getD l w41 raw0)), AV.int IntKind.i64 (Raw3.b (List.getD l w41 raw0)), AV.str (Raw3.text (List.getD l w41 raw0))])) ∧ ((AV.int IntKind.i64 x2 = AV.int IntKind.i64 x2) ∧ ((AV.int IntKind.i64 (wr IntKind.i64 ((((Prod.fst w2) : Nat) : Int) + 1)) = AV.int IntKind.i64 (((Prod.fst w39) : Nat) : Int)) ∧ True)))))))))
 -- ELSE
 (ite2 (cond Bool.false Bool.true ((Prod.snd (Pin.revokeS (Pin.pnsOf (List.length (Prod.snd w2)) (Pin.pcs (Prod.snd w2))) (Pin.namedS (Raw3.a (List.getD l (Int.toNat (((Prod.fst w2) : Nat) : Int)) raw0))))) == 13))
 -- THEN
 ((∃ w42 : Nat × List Pn, ((((fun x => Inv.up (Prod.fst x)) w42) < ((fun x => Inv.up (Prod.fst x)) w2)) ∧ ((Inv.upTo [AV.int IntKind.i64 x2] (Prod.fst w42)) ∧ ((Pin.faultP (Prod.snd w42) = 0) ∧ (Prod.snd w42 = Pin.pinnedN l (Prod.fst w42))))) ∧ ((List.length (Prod.snd w2) = List.length (Prod.snd w42)) ∧ ((∀ w43 : Nat, (w43 < (List.length (Prod.snd w42)) → leR [AV.str (Pin.Pn.name (List.getD (Prod.snd w2) w43 Pin.pn0)), AV.b8 32 (Pin.Pn.key (List.getD (Prod.snd w2) w43 Pin.pn0)), AV.bool (Pin.Pn.gone (List.getD (Prod.snd w2) w43 Pin.pn0))] [AV.str (Pin.Pn.name (List.getD (Prod.snd w42) w43 Pin.pn0)), AV.b8 32 (Pin.Pn.key (List.getD (Prod.snd w42) w43 Pin.pn0)), AV.bool (Pin.Pn.gone (List.getD (Prod.snd w42) w43 Pin.pn0))])) ∧ ((AV.bool Bool.true = AV.bool Bool.true) ∧ ((x1 = x1) ∧ ((∀ w44 : Nat, (w44 < (Min.min x0 (Int.toNat 20)) → leR [AV.int IntKind.i64 (Raw3.kind (List.getD l w44 raw0)), AV.int IntKind.i64 (Raw3.a (List.getD l w44 raw0)), AV.int IntKind.i64 (Raw3.b (List.getD l w44 raw0)), AV.str (Raw3.text (List.getD l w44 raw0))] [AV.int IntKind.i64 (Raw3.kind (List.getD l w44 raw0)), AV.int IntKind.i64 (Raw3.a (List.getD l w44 raw0)), AV.int IntKind.i64 (Raw3.b (List.getD l w44 raw0)), AV.str (Raw3.text (List.getD l w44 raw0))])) ∧ ((AV.int IntKind.i64 x2 = AV.int IntKind.i64 x2) ∧ ((AV.int IntKind.i64 (wr IntKind.i64 ((((Prod.fst w2) : Nat) : Int) + 1)) = AV.int IntKind.i64 (((Prod.fst w42) : Nat) : Int)) ∧ True)))))))))
 -- ELSE
 (ite2 (cond Bool.false Bool.true ((Prod.snd (Pin.revokeS (Pin.pnsOf (List.length (Prod.snd w2)) (Pin.pcs (Prod.snd w2))) (Pin.namedS (Raw3.a (List.getD l (Int.toNat (((Prod.fst w2) : Nat) : Int)) raw0))))) == 5))
 -- THEN
 ((∃ w45 : Nat × List Pn, ((((fun x => Inv.up (Prod.fst x)) w45) < ((fun x => Inv.up (Prod.fst x)) w2)) ∧ ((Inv.upTo [AV.int IntKind.i64 x2] (Prod.fst w45)) ∧ ((Pin.faultP (Prod.snd w45) = 0) ∧ (Prod.snd w45 = Pin.pinnedN l (Prod.fst w45))))) ∧ ((List.length (Prod.snd w2) = List.length (Prod.snd w45)) ∧ ((∀ w46 : Nat, (w46 < (List.length (Prod.snd w45)) → leR [AV.str (Pin.Pn.name (List.getD (Prod.snd w2) w46 Pin.pn0)), AV.b8 32 (Pin.Pn.key (List.getD (Prod.snd w2) w46 Pin.pn0)), AV.bool (Pin.Pn.gone (List.getD (Prod.snd w2) w46 Pin.pn0))] [AV.str (Pin.Pn.name (List.getD (Prod.snd w45) w46 Pin.pn0)), AV.b8 32 (Pin.Pn.key (List.getD (Prod.snd w45) w46 Pin.pn0)), AV.bool (Pin.Pn.gone (List.getD (Prod.snd w45) w46 Pin.pn0))])) ∧ ((AV.bool Bool.true = AV.bool Bool.true) ∧ ((x1 = x1) ∧ ((∀ w47 : Nat, (w47 < (Min.min x0 (Int.toNat 20)) → leR [AV.int IntKind.i64 (Raw3.kind (List.getD l w47 raw0)), AV.int IntKind.i64 (Raw3.a (List.getD l w47 raw0)), AV.int IntKind.i64 (Raw3.b (List.getD l w47 raw0)), AV.str (Raw3.text (List.getD l w47 raw0))] [AV.int IntKind.i64 (Raw3.kind (List.getD l w47 raw0)), AV.int IntKind.i64 (Raw3.a (List.getD l w47 raw0)), AV.int IntKind.i64 (Raw3.b (List.getD l w47 raw0)), AV.str (Raw3.text (List.getD l w47 raw0))])) ∧ ((AV.int IntKind.i64 x2 = AV.int IntKind.i64 x2) ∧ ((AV.int IntKind.i64 (wr IntKind.i64 ((((Prod.fst w2) : Nat) : Int) + 1)) = AV.int IntKind.i64 (((Prod.fst w45) : Nat) : Int)) ∧ True)))))))))
 -- ELSE
 ((∃ w48 : Nat × List Pn, ((((fun x => Inv.up (Prod.fst x)) w48) < ((fun x => Inv.up (Prod.fst x)) w2)) ∧ ((Inv.upTo [AV.int IntKind.i64 x2] (Prod.fst w48)) ∧ ((Pin.faultP (Prod.snd w48) = 0) ∧ (Prod.snd w48 = Pin.pinnedN l (Prod.fst w48))))) ∧ ((List.length (Prod.snd w2) = List.length (Prod.snd w48)) ∧ ((∀ w49 : Nat, (w49 < (List.length (Prod.snd w48)) → leR [AV.str (Pin.Pn.name (List.getD (Prod.snd w2) w49 Pin.pn0)), AV.b8 32 (Pin.Pn.key (List.getD (Prod.snd w2) w49 Pin.pn0)), AV.bool (Pin.Pn.gone (List.getD (Prod.snd w2) w49 Pin.pn0))] [AV.str (Pin.Pn.name (List.getD (Prod.snd w48) w49 Pin.pn0)), AV.b8 32 (Pin.Pn.key (List.getD (Prod.snd w48) w49 Pin.pn0)), AV.bool (Pin.Pn.gone (List.getD (Prod.snd w48) w49 Pin.pn0))])) ∧ ((AV.bool (cond Bool.true (cond Bool.false Bool.true ((Prod.snd (Pin.revokeS (Pin.pnsOf (List.length (Prod.snd w2)) (Pin.pcs (Prod.snd w2))) (Pin.namedS (Raw3.a (List.getD l (Int.toNat (((Prod.fst w2) : Nat) : Int)) raw0))))) == 8)) Bool.false) = AV.bool Bool.true) ∧ ((x1 = x1) ∧ ((∀ w50 : Nat, (w50 < (Min.min x0 (Int.toNat 20)) → leR [AV.int IntKind.i64 (Raw3.kind (List.getD l w50 raw0)), AV.int IntKind.i64 (Raw3.a (List.getD l w50 raw0)), AV.int IntKind.i64 (Raw3.b (List.getD l w50 raw0)), AV.str (Raw3.text (List.getD l w50 raw0))] [AV.int IntKind.i64 (Raw3.kind (List.getD l w50 raw0)), AV.int IntKind.i64 (Raw3.a (List.getD l w50 raw0)), AV.int IntKind.i64 (Raw3.b (List.getD l w50 raw0)), AV.str (Raw3.text (List.getD l w50 raw0))])) ∧ ((AV.int IntKind.i64 x2 = AV.int IntKind.i64 x2) ∧ ((AV.int IntKind.i64 (wr IntKind.i64 ((((Prod.fst w2) : Nat) : Int) + 1)) = AV.int IntKind.i64 (((Prod.fst w48) : Nat) : Int)) ∧ True))))))))))))))
 -- ELSE
 (ite2 (((Raw3.kind (List.getD l (Int.toNat (((Prod.fst w2) : Nat) : Int)) raw0)) % 6) == 2)
 -- THEN
 (cnd ((leB (List.length (Prod.snd w2)) 1000000000) && (Pin.isPns (List.length (Prod.snd w2)) (Pin.pcs (Prod.snd w2))))
 (ite2 ((Prod.snd (Pin.forgetS (Pin.pnsOf (List.length (Prod.snd w2)) (Pin.pcs (Prod.snd w2))) (Pin.namedS (Raw3.a (List.getD l (Int.toNat (((Prod.fst w2) : Nat) : Int)) raw0))))) == 0)
 -- THEN
 (ite2 ((Prod.snd (Pin.forgetS (Pin.pnsOf (List.length (Prod.snd w2)) (Pin.pcs (Prod.snd w2))) (Pin.namedS (Raw3.a (List.getD l (Int.toNat (((Prod.fst w2) : Nat) : Int)) raw0))))) == 0)
 -- THEN
 ((∃ w51 : Nat × List Pn, ((((fun x => Inv.up (Prod.fst x)) w51) < ((fun x => Inv.up (Prod.fst x)) w2)) ∧ ((Inv.upTo [AV.int IntKind.i64 x2] (Prod.fst w51)) ∧ ((Pin.faultP (Prod.snd w51) = 0) ∧ (Prod.snd w51 = Pin.pinnedN l (Prod.fst w51))))) ∧ ((List.length (Prod.fst (Pin.forgetS (Pin.pnsOf (List.length (Prod.snd w2)) (Pin.pcs (Prod.snd w2))) (Pin.namedS (Raw3.a (List.getD l (Int.toNat (((Prod.fst w2) : Nat) : Int)) raw0))))) = List.length (Prod.snd w51)) ∧ ((∀ w52 : Nat, (w52 < (List.length (Prod.snd w51)) → leR [AV.str (Pin.Pn.name (List.getD (Prod.fst (Pin.forgetS (Pin.pnsOf (List.length (Prod.snd w2)) (Pin.pcs (Prod.snd w2))) (Pin.namedS (Raw3.a (List.getD l (Int.toNat (((Prod.fst w2) : Nat) : Int)) raw0))))) w52 Pin.pn0)), AV.b8 32 (Pin.Pn.key (List.getD (Prod.fst (Pin.forgetS (Pin.pnsOf (List.length (Prod.snd w2)) (Pin.pcs (Prod.snd w2))) (Pin.namedS (Raw3.a (List.getD l (Int.toNat (((Prod.fst w2) : Nat) : Int)) raw0))))) w52 Pin.pn0)), AV.bool (Pin.Pn.gone (List.getD (Prod.fst (Pin.forgetS (Pin.pnsOf (List.length (Prod.snd w2)) (Pin.pcs (Prod.snd w2))) (Pin.namedS (Raw3.a (List.getD l (Int.toNat (((Prod.fst w2) : Nat) : Int)) raw0))))) w52 Pin.pn0))] [AV.str (Pin.Pn.name (List.getD (Prod.snd w51) w52 Pin.pn0)), AV.b8 32 (Pin.Pn.key (List.getD (Prod.snd w51) w52 Pin.pn0)), AV.bool (Pin.Pn.gone (List.getD (Prod.snd w51) w52 Pin.pn0))])) ∧ ((AV.bool Bool.true = AV.bool Bool.true) ∧ ((x1 = x1) ∧ ((∀ w53 : Nat, (w53 < (Min.min x0 (Int.toNat 20)) → leR [AV.int IntKind.i64 (Raw3.kind (List.getD l w53 raw0)), AV.int IntKind.i64 (Raw3.a (List.getD l w53 raw0)), AV.int IntKind.i64 (Raw3.b (List.getD l w53 raw0)), AV.str (Raw3.text (List.getD l w53 raw0))] [AV.int IntKind.i64 (Raw3.kind (List.getD l w53 raw0)), AV.int IntKind.i64 (Raw3.a (List.getD l w53 raw0)), AV.int IntKind.i64 (Raw3.b (List.getD l w53 raw0)), AV.str (Raw3.text (List.getD l w53 raw0))])) ∧ ((AV.int IntKind.i64 x2 = AV.int IntKind.i64 x2) ∧ ((AV.int IntKind.i64 (wr IntKind.i64 ((((Prod.fst w2) : Nat) : Int) + 1)) = AV.int IntKind.i64 (((Prod.fst w51) : Nat) : Int)) ∧ True)))))))))
 -- ELSE
 (ite2 (cond Bool.false Bool.true ((Prod.snd (Pin.forgetS (Pin.pnsOf (List.length (Prod.snd w2)) (Pin.pcs (Prod.snd w2))) (Pin.namedS (Raw3.a (List.getD l (Int.toNat (((Prod.fst w2) : Nat) : Int)) raw0))))) == 13))
 -- THEN
 ((∃ w54 : Nat × List Pn, ((((fun x => Inv.up (Prod.fst x)) w54) < ((fun x => Inv.up (Prod.fst x)) w2)) ∧ ((Inv.upTo [AV.int IntKind.i64 x2] (Prod.fst w54)) ∧ ((Pin.faultP (Prod.snd w54) = 0) ∧ (Prod.snd w54 = Pin.pinnedN l (Prod.fst w54))))) ∧ ((List.length (Prod.fst (Pin.forgetS (Pin.pnsOf (List.length (Prod.snd w2)) (Pin.pcs (Prod.snd w2))) (Pin.namedS (Raw3.a (List.getD l (Int.toNat (((Prod.fst w2) : Nat) : Int)) raw0))))) = List.length (Prod.snd w54)) ∧ ((∀ w55 : Nat, (w55 < (List.length (Prod.snd w54)) → leR [AV.str (Pin.Pn.name (List.getD (Prod.fst (Pin.forgetS (Pin.pnsOf (List.length (Prod.snd w2)) (Pin.pcs (Prod.snd w2))) (Pin.namedS (Raw3.a (List.getD l (Int.toNat (((Prod.fst w2) : Nat) : Int)) raw0))))) w55 Pin.pn0)), AV.b8 32 (Pin.Pn.key (List.getD (Prod.fst (Pin.forgetS (Pin.pnsOf (List.length (Prod.snd w2)) (Pin.pcs (Prod.snd w2))) (Pin.namedS (Raw3.a (List.getD l (Int.toNat (((Prod.fst w2) : Nat) : Int)) raw0))))) w55 Pin.pn0)), AV.bool (Pin.Pn.gone (List.getD (Prod.fst (Pin.forgetS (Pin.pnsOf (List.length (Prod.snd w2)) (Pin.pcs (Prod.snd w2))) (Pin.namedS (Raw3.a (List.getD l (Int.toNat (((Prod.fst w2) : Nat) : Int)) raw0))))) w55 Pin.pn0))] [AV.str (Pin.Pn.name (List.getD (Prod.snd w54) w55 Pin.pn0)), AV.b8 32 (Pin.Pn.key (List.getD (Prod.snd w54) w55 Pin.pn0)), AV.bool (Pin.Pn.gone (List.getD (Prod.snd w54) w55 Pin.pn0))])) ∧ ((AV.bool Bool.true = AV.bool Bool.true) ∧ ((x1 = x1) ∧ ((∀ w56 : Nat, (w56 < (Min.min x0 (Int.toNat 20)) → leR [AV.int IntKind.i64 (Raw3.kind (List.getD l w56 raw0)), AV.int IntKind.i64 (Raw3.a (List.getD l w56 raw0)), AV.int IntKind.i64 (Raw3.b (List.getD l w56 raw0)), AV.str (Raw3.text (List.getD l w56 raw0))] [AV.int IntKind.i64 (Raw3.kind (List.getD l w56 raw0)), AV.int IntKind.i64 (Raw3.a (List.getD l w56 raw0)), AV.int IntKind.i64 (Raw3.b (List.getD l w56 raw0)), AV.str (Raw3.text (List.getD l w56 raw0))])) ∧ ((AV.int IntKind.i64 x2 = AV.int IntKind.i64 x2) ∧ ((AV.int IntKind.i64 (wr IntKind.i64 ((((Prod.fst w2) : Nat) : Int) + 1)) = AV.int IntKind.i64 (((Prod.fst w54) : Nat) : Int)) ∧ True)))))))))
 -- ELSE
 (ite2 (cond Bool.false Bool.true ((Prod.snd (Pin.forgetS (Pin.pnsOf (List.length (Prod.snd w2)) (Pin.pcs (Prod.snd w2))) (Pin.namedS (Raw3.a (List.getD l (Int.toNat (((Prod.fst w2) : Nat) : Int)) raw0))))) == 5))
 -- THEN
 ((∃ w57 : Nat × List Pn, ((((fun x => Inv.up (Prod.fst x)) w57) < ((fun x => Inv.up (Prod.fst x)) w2)) ∧ ((Inv.upTo [AV.int IntKind.i64 x2] (Prod.fst w57)) ∧ ((Pin.faultP (Prod.snd w57) = 0) ∧ (Prod.snd w57 = Pin.pinnedN l (Prod.fst w57))))) ∧ ((List.length (Prod.fst (Pin.forgetS (Pin.pnsOf (List.length (Prod.snd w2)) (Pin.pcs (Prod.snd w2))) (Pin.namedS (Raw3.a (List.getD l (Int.toNat (((Prod.fst w2) : Nat) : Int)) raw0))))) = List.length (Prod.snd w57)) ∧ ((∀ w58 : Nat, (w58 < (List.length (Prod.snd w57)) → leR [AV.str (Pin.Pn.name (List.getD (Prod.fst (Pin.forgetS (Pin.pnsOf (List.length (Prod.snd w2)) (Pin.pcs (Prod.snd w2))) (Pin.namedS (Raw3.a (List.getD l (Int.toNat (((Prod.fst w2) : Nat) : Int)) raw0))))) w58 Pin.pn0)), AV.b8 32 (Pin.Pn.key (List.getD (Prod.fst (Pin.forgetS (Pin.pnsOf (List.length (Prod.snd w2)) (Pin.pcs (Prod.snd w2))) (Pin.namedS (Raw3.a (List.getD l (Int.toNat (((Prod.fst w2) : Nat) : Int)) raw0))))) w58 Pin.pn0)), AV.bool (Pin.Pn.gone (List.getD (Prod.fst (Pin.forgetS (Pin.pnsOf (List.length (Prod.snd w2)) (Pin.pcs (Prod.snd w2))) (Pin.namedS (Raw3.a (List.getD l (Int.toNat (((Prod.fst w2) : Nat) : Int)) raw0))))) w58 Pin.pn0))] [AV.str (Pin.Pn.name (List.getD (Prod.snd w57) w58 Pin.pn0)), AV.b8 32 (Pin.Pn.key (List.getD (Prod.snd w57) w58 Pin.pn0)), AV.bool (Pin.Pn.gone (List.getD (Prod.snd w57) w58 Pin.pn0))])) ∧ ((AV.bool Bool.true = AV.bool Bool.true) ∧ ((x1 = x1) ∧ ((∀ w59 : Nat, (w59 < (Min.min x0 (Int.toNat 20)) → leR [AV.int IntKind.i64 (Raw3.kind (List.getD l w59 raw0)), AV.int IntKind.i64 (Raw3.a (List.getD l w59 raw0)), AV.int IntKind.i64 (Raw3.b (List.getD l w59 raw0)), AV.str (Raw3.text (List.getD l w59 raw0))] [AV.int IntKind.i64 (Raw3.kind (List.getD l w59 raw0)), AV.int IntKind.i64 (Raw3.a (List.getD l w59 raw0)), AV.int IntKind.i64 (Raw3.b (List.getD l w59 raw0)), AV.str (Raw3.text (List.getD l w59 raw0))])) ∧ ((AV.int IntKind.i64 x2 = AV.int IntKind.i64 x2) ∧ ((AV.int IntKind.i64 (wr IntKind.i64 ((((Prod.fst w2) : Nat) : Int) + 1)) = AV.int IntKind.i64 (((Prod.fst w57) : Nat) : Int)) ∧ True)))))))))
 -- ELSE
 ((∃ w60 : Nat × List Pn, ((((fun x => Inv.up (Prod.fst x)) w60) < ((fun x => Inv.up (Prod.fst x)) w2)) ∧ ((Inv.upTo [AV.int IntKind.i64 x2] (Prod.fst w60)) ∧ ((Pin.faultP (Prod.snd w60) = 0) ∧ (Prod.snd w60 = Pin.pinnedN l (Prod.fst w60))))) ∧ ((List.length (Prod.fst (Pin.forgetS (Pin.pnsOf (List.length (Prod.snd w2)) (Pin.pcs (Prod.snd w2))) (Pin.namedS (Raw3.a (List.getD l (Int.toNat (((Prod.fst w2) : Nat) : Int)) raw0))))) = List.length (Prod.snd w60)) ∧ ((∀ w61 : Nat, (w61 < (List.length (Prod.snd w60)) → leR [AV.str (Pin.Pn.name (List.getD (Prod.fst (Pin.forgetS (Pin.pnsOf (List.length (Prod.snd w2)) (Pin.pcs (Prod.snd w2))) (Pin.namedS (Raw3.a (List.getD l (Int.toNat (((Prod.fst w2) : Nat) : Int)) raw0))))) w61 Pin.pn0)), AV.b8 32 (Pin.Pn.key (List.getD (Prod.fst (Pin.forgetS (Pin.pnsOf (List.length (Prod.snd w2)) (Pin.pcs (Prod.snd w2))) (Pin.namedS (Raw3.a (List.getD l (Int.toNat (((Prod.fst w2) : Nat) : Int)) raw0))))) w61 Pin.pn0)), AV.bool (Pin.Pn.gone (List.getD (Prod.fst (Pin.forgetS (Pin.pnsOf (List.length (Prod.snd w2)) (Pin.pcs (Prod.snd w2))) (Pin.namedS (Raw3.a (List.getD l (Int.toNat (((Prod.fst w2) : Nat) : Int)) raw0))))) w61 Pin.pn0))] [AV.str (Pin.Pn.name (List.getD (Prod.snd w60) w61 Pin.pn0)), AV.b8 32 (Pin.Pn.key (List.getD (Prod.snd w60) w61 Pin.pn0)), AV.bool (Pin.Pn.gone (List.getD (Prod.snd w60) w61 Pin.pn0))])) ∧ ((AV.bool (cond Bool.true (cond Bool.false Bool.true ((Prod.snd (Pin.forgetS (Pin.pnsOf (List.length (Prod.snd w2)) (Pin.pcs (Prod.snd w2))) (Pin.namedS (Raw3.a (List.getD l (Int.toNat (((Prod.fst w2) : Nat) : Int)) raw0))))) == 8)) Bool.false) = AV.bool Bool.true) ∧ ((x1 = x1) ∧ ((∀ w62 : Nat, (w62 < (Min.min x0 (Int.toNat 20)) → leR [AV.int IntKind.i64 (Raw3.kind (List.getD l w62 raw0)), AV.int IntKind.i64 (Raw3.a (List.getD l w62 raw0)), AV.int IntKind.i64 (Raw3.b (List.getD l w62 raw0)), AV.str (Raw3.text (List.getD l w62 raw0))] [AV.int IntKind.i64 (Raw3.kind (List.getD l w62 raw0)), AV.int IntKind.i64 (Raw3.a (List.getD l w62 raw0)), AV.int IntKind.i64 (Raw3.b (List.getD l w62 raw0)), AV.str (Raw3.text (List.getD l w62 raw0))])) ∧ ((AV.int IntKind.i64 x2 = AV.int IntKind.i64 x2) ∧ ((AV.int IntKind.i64 (wr IntKind.i64 ((((Prod.fst w2) : Nat) : Int) + 1)) = AV.int IntKind.i64 (((Prod.fst w60) : Nat) : Int)) ∧ True))))))))))))
 -- ELSE
 (ite2 ((Prod.snd (Pin.forgetS (Pin.pnsOf (List.length (Prod.snd w2)) (Pin.pcs (Prod.snd w2))) (Pin.namedS (Raw3.a (List.getD l (Int.toNat (((Prod.fst w2) : Nat) : Int)) raw0))))) == 0)
 -- THEN
 ((∃ w63 : Nat × List Pn, ((((fun x => Inv.up (Prod.fst x)) w63) < ((fun x => Inv.up (Prod.fst x)) w2)) ∧ ((Inv.upTo [AV.int IntKind.i64 x2] (Prod.fst w63)) ∧ ((Pin.faultP (Prod.snd w63) = 0) ∧ (Prod.snd w63 = Pin.pinnedN l (Prod.fst w63))))) ∧ ((List.length (Prod.snd w2) = List.length (Prod.snd w63)) ∧ ((∀ w64 : Nat, (w64 < (List.length (Prod.snd w63)) → leR [AV.str (Pin.Pn.name (List.getD (Prod.snd w2) w64 Pin.pn0)), AV.b8 32 (Pin.Pn.key (List.getD (Prod.snd w2) w64 Pin.pn0)), AV.bool (Pin.Pn.gone (List.getD (Prod.snd w2) w64 Pin.pn0))] [AV.str (Pin.Pn.name (List.getD (Prod.snd w63) w64 Pin.pn0)), AV.b8 32 (Pin.Pn.key (List.getD (Prod.snd w63) w64 Pin.pn0)), AV.bool (Pin.Pn.gone (List.getD (Prod.snd w63) w64 Pin.pn0))])) ∧ ((AV.bool Bool.true = AV.bool Bool.true) ∧ ((x1 = x1) ∧ ((∀ w65 : Nat, (w65 < (Min.min x0 (Int.toNat 20)) → leR [AV.int IntKind.i64 (Raw3.kind (List.getD l w65 raw0)), AV.int IntKind.i64 (Raw3.a (List.getD l w65 raw0)), AV.int IntKind.i64 (Raw3.b (List.getD l w65 raw0)), AV.str (Raw3.text (List.getD l w65 raw0))] [AV.int IntKind.i64 (Raw3.kind (List.getD l w65 raw0)), AV.int IntKind.i64 (Raw3.a (List.getD l w65 raw0)), AV.int IntKind.i64 (Raw3.b (List.getD l w65 raw0)), AV.str (Raw3.text (List.getD l w65 raw0))])) ∧ ((AV.int IntKind.i64 x2 = AV.int IntKind.i64 x2) ∧ ((AV.int IntKind.i64 (wr IntKind.i64 ((((Prod.fst w2) : Nat) : Int) + 1)) = AV.int IntKind.i64 (((Prod.fst w63) : Nat) : Int)) ∧ True)))))))))
 -- ELSE
 (ite2 (cond Bool.false Bool.true ((Prod.snd (Pin.forgetS (Pin.pnsOf (List.length (Prod.snd w2)) (Pin.pcs (Prod.snd w2))) (Pin.namedS (Raw3.a (List.getD l (Int.toNat (((Prod.fst w2) : Nat) : Int)) raw0))))) == 13))
 -- THEN
 ((∃ w66 : Nat × List Pn, ((((fun x => Inv.up (Prod.fst x)) w66) < ((fun x => Inv.up (Prod.fst x)) w2)) ∧ ((Inv.upTo [AV.int IntKind.i64 x2] (Prod.fst w66)) ∧ ((Pin.faultP (Prod.snd w66) = 0) ∧ (Prod.snd w66 = Pin.pinnedN l (Prod.fst w66))))) ∧ ((List.length (Prod.snd w2) = List.length (Prod.snd w66)) ∧ ((∀ w67 : Nat, (w67 < (List.length (Prod.snd w66)) → leR [AV.str (Pin.Pn.name (List.getD (Prod.snd w2) w67 Pin.pn0)), AV.b8 32 (Pin.Pn.key (List.getD (Prod.snd w2) w67 Pin.pn0)), AV.bool (Pin.Pn.gone (List.getD (Prod.snd w2) w67 Pin.pn0))] [AV.str (Pin.Pn.name (List.getD (Prod.snd w66) w67 Pin.pn0)), AV.b8 32 (Pin.Pn.key (List.getD (Prod.snd w66) w67 Pin.pn0)), AV.bool (Pin.Pn.gone (List.getD (Prod.snd w66) w67 Pin.pn0))])) ∧ ((AV.bool Bool.true = AV.bool Bool.true) ∧ ((x1 = x1) ∧ ((∀ w68 : Nat, (w68 < (Min.min x0 (Int.toNat 20)) → leR [AV.int IntKind.i64 (Raw3.kind (List.getD l w68 raw0)), AV.int IntKind.i64 (Raw3.a (List.getD l w68 raw0)), AV.int IntKind.i64 (Raw3.b (List.getD l w68 raw0)), AV.str (Raw3.text (List.getD l w68 raw0))] [AV.int IntKind.i64 (Raw3.kind (List.getD l w68 raw0)), AV.int IntKind.i64 (Raw3.a (List.getD l w68 raw0)), AV.int IntKind.i64 (Raw3.b (List.getD l w68 raw0)), AV.str (Raw3.text (List.getD l w68 raw0))])) ∧ ((AV.int IntKind.i64 x2 = AV.int IntKind.i64 x2) ∧ ((AV.int IntKind.i64 (wr IntKind.i64 ((((Prod.fst w2) : Nat) : Int) + 1)) = AV.int IntKind.i64 (((Prod.fst w66) : Nat) : Int)) ∧ True)))))))))
 -- ELSE
 (ite2 (cond Bool.false Bool.true ((Prod.snd (Pin.forgetS (Pin.pnsOf (List.length (Prod.snd w2)) (Pin.pcs (Prod.snd w2))) (Pin.namedS (Raw3.a (List.getD l (Int.toNat (((Prod.fst w2) : Nat) : Int)) raw0))))) == 5))
 -- THEN
 ((∃ w69 : Nat × List Pn, ((((fun x => Inv.up (Prod.fst x)) w69) < ((fun x => Inv.up (Prod.fst x)) w2)) ∧ ((Inv.upTo [AV.int IntKind.i64 x2] (Prod.fst w69)) ∧ ((Pin.faultP (Prod.snd w69) = 0) ∧ (Prod.snd w69 = Pin.pinnedN l (Prod.fst w69))))) ∧ ((List.length (Prod.snd w2) = List.length (Prod.snd w69)) ∧ ((∀ w70 : Nat, (w70 < (List.length (Prod.snd w69)) → leR [AV.str (Pin.Pn.name (List.getD (Prod.snd w2) w70 Pin.pn0)), AV.b8 32 (Pin.Pn.key (List.getD (Prod.snd w2) w70 Pin.pn0)), AV.bool (Pin.Pn.gone (List.getD (Prod.snd w2) w70 Pin.pn0))] [AV.str (Pin.Pn.name (List.getD (Prod.snd w69) w70 Pin.pn0)), AV.b8 32 (Pin.Pn.key (List.getD (Prod.snd w69) w70 Pin.pn0)), AV.bool (Pin.Pn.gone (List.getD (Prod.snd w69) w70 Pin.pn0))])) ∧ ((AV.bool Bool.true = AV.bool Bool.true) ∧ ((x1 = x1) ∧ ((∀ w71 : Nat, (w71 < (Min.min x0 (Int.toNat 20)) → leR [AV.int IntKind.i64 (Raw3.kind (List.getD l w71 raw0)), AV.int IntKind.i64 (Raw3.a (List.getD l w71 raw0)), AV.int IntKind.i64 (Raw3.b (List.getD l w71 raw0)), AV.str (Raw3.text (List.getD l w71 raw0))] [AV.int IntKind.i64 (Raw3.kind (List.getD l w71 raw0)), AV.int IntKind.i64 (Raw3.a (List.getD l w71 raw0)), AV.int IntKind.i64 (Raw3.b (List.getD l w71 raw0)), AV.str (Raw3.text (List.getD l w71 raw0))])) ∧ ((AV.int IntKind.i64 x2 = AV.int IntKind.i64 x2) ∧ ((AV.int IntKind.i64 (wr IntKind.i64 ((((Prod.fst w2) : Nat) : Int) + 1)) = AV.int IntKind.i64 (((Prod.fst w69) : Nat) : Int)) ∧ True)))))))))
 -- ELSE
 ((∃ w72 : Nat × List Pn, ((((fun x => Inv.up (Prod.fst x)) w72) < ((fun x => Inv.up (Prod.fst x)) w2)) ∧ ((Inv.upTo [AV.int IntKind.i64 x2] (Prod.fst w72)) ∧ ((Pin.faultP (Prod.snd w72) = 0) ∧ (Prod.snd w72 = Pin.pinnedN l (Prod.fst w72))))) ∧ ((List.length (Prod.snd w2) = List.length (Prod.snd w72)) ∧ ((∀ w73 : Nat, (w73 < (List.length (Prod.snd w72)) → leR [AV.str (Pin.Pn.name (List.getD (Prod.snd w2) w73 Pin.pn0)), AV.b8 32 (Pin.Pn.key (List.getD (Prod.snd w2) w73 Pin.pn0)), AV.bool (Pin.Pn.gone (List.getD (Prod.snd w2) w73 Pin.pn0))] [AV.str (Pin.Pn.name (List.getD (Prod.snd w72) w73 Pin.pn0)), AV.b8 32 (Pin.Pn.key (List.getD (Prod.snd w72) w73 Pin.pn0)), AV.bool (Pin.Pn.gone (List.getD (Prod.snd w72) w73 Pin.pn0))])) ∧ ((AV.bool (cond Bool.true (cond Bool.false Bool.true ((Prod.snd (Pin.forgetS (Pin.pnsOf (List.length (Prod.snd w2)) (Pin.pcs (Prod.snd w2))) (Pin.namedS (Raw3.a (List.getD l (Int.toNat (((Prod.fst w2) : Nat) : Int)) raw0))))) == 8)) Bool.false) = AV.bool Bool.true) ∧ ((x1 = x1) ∧ ((∀ w74 : Nat, (w74 < (Min.min x0 (Int.toNat 20)) → leR [AV.int IntKind.i64 (Raw3.kind (List.getD l w74 raw0)), AV.int IntKind.i64 (Raw3.a (List.getD l w74 raw0)), AV.int IntKind.i64 (Raw3.b (List.getD l w74 raw0)), AV.str (Raw3.text (List.getD l w74 raw0))] [AV.int IntKind.i64 (Raw3.kind (List.getD l w74 raw0)), AV.int IntKind.i64 (Raw3.a (List.getD l w74 raw0)), AV.int IntKind.i64 (Raw3.b (List.getD l w74 raw0)), AV.str (Raw3.text (List.getD l w74 raw0))])) ∧ ((AV.int IntKind.i64 x2 = AV.int IntKind.i64 x2) ∧ ((AV.int IntKind.i64 (wr IntKind.i64 ((((Prod.fst w2) : Nat) : Int) + 1)) = AV.int IntKind.i64 (((Prod.fst w72) : Nat) : Int)) ∧ True))))))))))))))
 -- ELSE
 (ite2 ((Prod.snd (Pin.trustS (Pin.pnsOf (List.length (Prod.snd w2)) (Pin.pcs (Prod.snd w2))) (Pin.namedS (Raw3.a (List.getD l (Int.toNat (((Prod.fst w2) : Nat) : Int)) raw0))) (Pin.keyS ((Raw3.b (List.getD l (Int.toNat (((Prod.fst w2) : Nat) : Int)) raw0)) % 3)))) == 0)
 -- THEN
 (ite2 ((Prod.snd (Pin.trustS (Pin.pnsOf (List.length (Prod.snd w2)) (Pin.pcs (Prod.snd w2))) (Pin.namedS (Raw3.a (List.getD l (Int.toNat (((Prod.fst w2) : Nat) : Int)) raw0))) (Pin.keyS ((Raw3.b (List.getD l (Int.toNat (((Prod.fst w2) : Nat) : Int)) raw0)) % 3)))) == 0)
 -- THEN
 ((∃ w75 : Nat × List Pn, ((((fun x => Inv.up (Prod.fst x)) w75) < ((fun x => Inv.up (Prod.fst x)) w2)) ∧ ((Inv.upTo [AV.int IntKind.i64 x2] (Prod.fst w75)) ∧ ((Pin.faultP (Prod.snd w75) = 0) ∧ (Prod.snd w75 = Pin.pinnedN l (Prod.fst w75))))) ∧ ((List.length (Prod.fst (Pin.trustS (Pin.pnsOf (List.length (Prod.snd w2)) (Pin.pcs (Prod.snd w2))) (Pin.namedS (Raw3.a (List.getD l (Int.toNat (((Prod.fst w2) : Nat) : Int)) raw0))) (Pin.keyS ((Raw3.b (List.getD l (Int.toNat (((Prod.fst w2) : Nat) : Int)) raw0)) % 3)))) = List.length (Prod.snd w75)) ∧ ((∀ w76 : Nat, (w76 < (List.length (Prod.snd w75)) → leR [AV.str (Pin.Pn.name (List.getD (Prod.fst (Pin.trustS (Pin.pnsOf (List.length (Prod.snd w2)) (Pin.pcs (Prod.snd w2))) (Pin.namedS (Raw3.a (List.getD l (Int.toNat (((Prod.fst w2) : Nat) : Int)) raw0))) (Pin.keyS ((Raw3.b (List.getD l (Int.toNat (((Prod.fst w2) : Nat) : Int)) raw0)) % 3)))) w76 Pin.pn0)), AV.b8 32 (Pin.Pn.key (List.getD (Prod.fst (Pin.trustS (Pin.pnsOf (List.length (Prod.snd w2)) (Pin.pcs (Prod.snd w2))) (Pin.namedS (Raw3.a (List.getD l (Int.toNat (((Prod.fst w2) : Nat) : Int)) raw0))) (Pin.keyS ((Raw3.b (List.getD l (Int.toNat (((Prod.fst w2) : Nat) : Int)) raw0)) % 3)))) w76 Pin.pn0)), AV.bool (Pin.Pn.gone (List.getD (Prod.fst (Pin.trustS (Pin.pnsOf (List.length (Prod.snd w2)) (Pin.pcs (Prod.snd w2))) (Pin.namedS (Raw3.a (List.getD l (Int.toNat (((Prod.fst w2) : Nat) : Int)) raw0))) (Pin.keyS ((Raw3.b (List.getD l (Int.toNat (((Prod.fst w2) : Nat) : Int)) raw0)) % 3)))) w76 Pin.pn0))] [AV.str (Pin.Pn.name (List.getD (Prod.snd w75) w76 Pin.pn0)), AV.b8 32 (Pin.Pn.key (List.getD (Prod.snd w75) w76 Pin.pn0)), AV.bool (Pin.Pn.gone (List.getD (Prod.snd w75) w76 Pin.pn0))])) ∧ ((AV.bool Bool.true = AV.bool Bool.true) ∧ ((x1 = x1) ∧ ((∀ w77 : Nat, (w77 < (Min.min x0 (Int.toNat 20)) → leR [AV.int IntKind.i64 (Raw3.kind (List.getD l w77 raw0)), AV.int IntKind.i64 (Raw3.a (List.getD l w77 raw0)), AV.int IntKind.i64 (Raw3.b (List.getD l w77 raw0)), AV.str (Raw3.text (List.getD l w77 raw0))] [AV.int IntKind.i64 (Raw3.kind (List.getD l w77 raw0)), AV.int IntKind.i64 (Raw3.a (List.getD l w77 raw0)), AV.int IntKind.i64 (Raw3.b (List.getD l w77 raw0)), AV.str (Raw3.text (List.getD l w77 raw0))])) ∧ ((AV.int IntKind.i64 x2 = AV.int IntKind.i64 x2) ∧ ((AV.int IntKind.i64 (wr IntKind.i64 ((((Prod.fst w2) : Nat) : Int) + 1)) = AV.int IntKind.i64 (((Prod.fst w75) : Nat) : Int)) ∧ True)))))))))
 -- ELSE
 (ite2 (cond Bool.false Bool.true ((Prod.snd (Pin.trustS (Pin.pnsOf (List.length (Prod.snd w2)) (Pin.pcs (Prod.snd w2))) (Pin.namedS (Raw3.a (List.getD l (Int.toNat (((Prod.fst w2) : Nat) : Int)) raw0))) (Pin.keyS ((Raw3.b (List.getD l (Int.toNat (((Prod.fst w2) : Nat) : Int)) raw0)) % 3)))) == 13))
 -- THEN
 ((∃ w78 : Nat × List Pn, ((((fun x => Inv.up (Prod.fst x)) w78) < ((fun x => Inv.up (Prod.fst x)) w2)) ∧ ((Inv.upTo [AV.int IntKind.i64 x2] (Prod.fst w78)) ∧ ((Pin.faultP (Prod.snd w78) = 0) ∧ (Prod.snd w78 = Pin.pinnedN l (Prod.fst w78))))) ∧ ((List.length (Prod.fst (Pin.trustS (Pin.pnsOf (List.length (Prod.snd w2)) (Pin.pcs (Prod.snd w2))) (Pin.namedS (Raw3.a (List.getD l (Int.toNat (((Prod.fst w2) : Nat) : Int)) raw0))) (Pin.keyS ((Raw3.b (List.getD l (Int.toNat (((Prod.fst w2) : Nat) : Int)) raw0)) % 3)))) = List.length (Prod.snd w78)) ∧ ((∀ w79 : Nat, (w79 < (List.length (Prod.snd w78)) → leR [AV.str (Pin.Pn.name (List.getD (Prod.fst (Pin.trustS (Pin.pnsOf (List.length (Prod.snd w2)) (Pin.pcs (Prod.snd w2))) (Pin.namedS (Raw3.a (List.getD l (Int.toNat (((Prod.fst w2) : Nat) : Int)) raw0))) (Pin.keyS ((Raw3.b (List.getD l (Int.toNat (((Prod.fst w2) : Nat) : Int)) raw0)) % 3)))) w79 Pin.pn0)), AV.b8 32 (Pin.Pn.key (List.getD (Prod.fst (Pin.trustS (Pin.pnsOf (List.length (Prod.snd w2)) (Pin.pcs (Prod.snd w2))) (Pin.namedS (Raw3.a (List.getD l (Int.toNat (((Prod.fst w2) : Nat) : Int)) raw0))) (Pin.keyS ((Raw3.b (List.getD l (Int.toNat (((Prod.fst w2) : Nat) : Int)) raw0)) % 3)))) w79 Pin.pn0)), AV.bool (Pin.Pn.gone (List.getD (Prod.fst (Pin.trustS (Pin.pnsOf (List.length (Prod.snd w2)) (Pin.pcs (Prod.snd w2))) (Pin.namedS (Raw3.a (List.getD l (Int.toNat (((Prod.fst w2) : Nat) : Int)) raw0))) (Pin.keyS ((Raw3.b (List.getD l (Int.toNat (((Prod.fst w2) : Nat) : Int)) raw0)) % 3)))) w79 Pin.pn0))] [AV.str (Pin.Pn.name (List.getD (Prod.snd w78) w79 Pin.pn0)), AV.b8 32 (Pin.Pn.key (List.getD (Prod.snd w78) w79 Pin.pn0)), AV.bool (Pin.Pn.gone (List.getD (Prod.snd w78) w79 Pin.pn0))])) ∧ ((AV.bool Bool.true = AV.bool Bool.true) ∧ ((x1 = x1) ∧ ((∀ w80 : Nat, (w80 < (Min.min x0 (Int.toNat 20)) → leR [AV.int IntKind.i64 (Raw3.kind (List.getD l w80 raw0)), AV.int IntKind.i64 (Raw3.a (List.getD l w80 raw0)), AV.int IntKind.i64 (Raw3.b (List.getD l w80 raw0)), AV.str (Raw3.text (List.getD l w80 raw0))] [AV.int IntKind.i64 (Raw3.kind (List.getD l w80 raw0)), AV.int IntKind.i64 (Raw3.a (List.getD l w80 raw0)), AV.int IntKind.i64 (Raw3.b (List.getD l w80 raw0)), AV.str (Raw3.text (List.getD l w80 raw0))])) ∧ ((AV.int IntKind.i64 x2 = AV.int IntKind.i64 x2) ∧ ((AV.int IntKind.i64 (wr IntKind.i64 ((((Prod.fst w2) : Nat) : Int) + 1)) = AV.int IntKind.i64 (((Prod.fst w78) : Nat) : Int)) ∧ True)))))))))
 -- ELSE
 (ite2 (cond Bool.false Bool.true ((Prod.snd (Pin.trustS (Pin.pnsOf (List.length (Prod.snd w2)) (Pin.pcs (Prod.snd w2))) (Pin.namedS (Raw3.a (List.getD l (Int.toNat (((Prod.fst w2) : Nat) : Int)) raw0))) (Pin.keyS ((Raw3.b (List.getD l (Int.toNat (((Prod.fst w2) : Nat) : Int)) raw0)) % 3)))) == 5))
 -- THEN
 ((∃ w81 : Nat × List Pn, ((((fun x => Inv.up (Prod.fst x)) w81) < ((fun x => Inv.up (Prod.fst x)) w2)) ∧ ((Inv.upTo [AV.int IntKind.i64 x2] (Prod.fst w81)) ∧ ((Pin.faultP (Prod.snd w81) = 0) ∧ (Prod.snd w81 = Pin.pinnedN l (Prod.fst w81))))) ∧ ((List.length (Prod.fst (Pin.trustS (Pin.pnsOf (List.length (Prod.snd w2)) (Pin.pcs (Prod.snd w2))) (Pin.namedS (Raw3.a (List.getD l (Int.toNat (((Prod.fst w2) : Nat) : Int)) raw0))) (Pin.keyS ((Raw3.b (List.getD l (Int.toNat (((Prod.fst w2) : Nat) : Int)) raw0)) % 3)))) = List.length (Prod.snd w81)) ∧ ((∀ w82 : Nat, (w82 < (List.length (Prod.snd w81)) → leR [AV.str (Pin.Pn.name (List.getD (Prod.fst (Pin.trustS (Pin.pnsOf (List.length (Prod.snd w2)) (Pin.pcs (Prod.snd w2))) (Pin.namedS (Raw3.a (List.getD l (Int.toNat (((Prod.fst w2) : Nat) : Int)) raw0))) (Pin.keyS ((Raw3.b (List.getD l (Int.toNat (((Prod.fst w2) : Nat) : Int)) raw0)) % 3)))) w82 Pin.pn0)), AV.b8 32 (Pin.Pn.key (List.getD (Prod.fst (Pin.trustS (Pin.pnsOf (List.length (Prod.snd w2)) (Pin.pcs (Prod.snd w2))) (Pin.namedS (Raw3.a (List.getD l (Int.toNat (((Prod.fst w2) : Nat) : Int)) raw0))) (Pin.keyS ((Raw3.b (List.getD l (Int.toNat (((Prod.fst w2) : Nat) : Int)) raw0)) % 3)))) w82 Pin.pn0)), AV.bool (Pin.Pn.gone (List.getD (Prod.fst (Pin.trustS (Pin.pnsOf (List.length (Prod.snd w2)) (Pin.pcs (Prod.snd w2))) (Pin.namedS (Raw3.a (List.getD l (Int.toNat (((Prod.fst w2) : Nat) : Int)) raw0))) (Pin.keyS ((Raw3.b (List.getD l (Int.toNat (((Prod.fst w2) : Nat) : Int)) raw0)) % 3)))) w82 Pin.pn0))] [AV.str (Pin.Pn.name (List.getD (Prod.snd w81) w82 Pin.pn0)), AV.b8 32 (Pin.Pn.key (List.getD (Prod.snd w81) w82 Pin.pn0)), AV.bool (Pin.Pn.gone (List.getD (Prod.snd w81) w82 Pin.pn0))])) ∧ ((AV.bool Bool.true = AV.bool Bool.true) ∧ ((x1 = x1) ∧ ((∀ w83 : Nat, (w83 < (Min.min x0 (Int.toNat 20)) → leR [AV.int IntKind.i64 (Raw3.kind (List.getD l w83 raw0)), AV.int IntKind.i64 (Raw3.a (List.getD l w83 raw0)), AV.int IntKind.i64 (Raw3.b (List.getD l w83 raw0)), AV.str (Raw3.text (List.getD l w83 raw0))] [AV.int IntKind.i64 (Raw3.kind (List.getD l w83 raw0)), AV.int IntKind.i64 (Raw3.a (List.getD l w83 raw0)), AV.int IntKind.i64 (Raw3.b (List.getD l w83 raw0)), AV.str (Raw3.text (List.getD l w83 raw0))])) ∧ ((AV.int IntKind.i64 x2 = AV.int IntKind.i64 x2) ∧ ((AV.int IntKind.i64 (wr IntKind.i64 ((((Prod.fst w2) : Nat) : Int) + 1)) = AV.int IntKind.i64 (((Prod.fst w81) : Nat) : Int)) ∧ True)))))))))
 -- ELSE
 ((∃ w84 : Nat × List Pn, ((((fun x => Inv.up (Prod.fst x)) w84) < ((fun x => Inv.up (Prod.fst x)) w2)) ∧ ((Inv.upTo [AV.int IntKind.i64 x2] (Prod.fst w84)) ∧ ((Pin.faultP (Prod.snd w84) = 0) ∧ (Prod.snd w84 = Pin.pinnedN l (Prod.fst w84))))) ∧ ((List.length (Prod.fst (Pin.trustS (Pin.pnsOf (List.length (Prod.snd w2)) (Pin.pcs (Prod.snd w2))) (Pin.namedS (Raw3.a (List.getD l (Int.toNat (((Prod.fst w2) : Nat) : Int)) raw0))) (Pin.keyS ((Raw3.b (List.getD l (Int.toNat (((Prod.fst w2) : Nat) : Int)) raw0)) % 3)))) = List.length (Prod.snd w84)) ∧ ((∀ w85 : Nat, (w85 < (List.length (Prod.snd w84)) → leR [AV.str (Pin.Pn.name (List.getD (Prod.fst (Pin.trustS (Pin.pnsOf (List.length (Prod.snd w2)) (Pin.pcs (Prod.snd w2))) (Pin.namedS (Raw3.a (List.getD l (Int.toNat (((Prod.fst w2) : Nat) : Int)) raw0))) (Pin.keyS ((Raw3.b (List.getD l (Int.toNat (((Prod.fst w2) : Nat) : Int)) raw0)) % 3)))) w85 Pin.pn0)), AV.b8 32 (Pin.Pn.key (List.getD (Prod.fst (Pin.trustS (Pin.pnsOf (List.length (Prod.snd w2)) (Pin.pcs (Prod.snd w2))) (Pin.namedS (Raw3.a (List.getD l (Int.toNat (((Prod.fst w2) : Nat) : Int)) raw0))) (Pin.keyS ((Raw3.b (List.getD l (Int.toNat (((Prod.fst w2) : Nat) : Int)) raw0)) % 3)))) w85 Pin.pn0)), AV.bool (Pin.Pn.gone (List.getD (Prod.fst (Pin.trustS (Pin.pnsOf (List.length (Prod.snd w2)) (Pin.pcs (Prod.snd w2))) (Pin.namedS (Raw3.a (List.getD l (Int.toNat (((Prod.fst w2) : Nat) : Int)) raw0))) (Pin.keyS ((Raw3.b (List.getD l (Int.toNat (((Prod.fst w2) : Nat) : Int)) raw0)) % 3)))) w85 Pin.pn0))] [AV.str (Pin.Pn.name (List.getD (Prod.snd w84) w85 Pin.pn0)), AV.b8 32 (Pin.Pn.key (List.getD (Prod.snd w84) w85 Pin.pn0)), AV.bool (Pin.Pn.gone (List.getD (Prod.snd w84) w85 Pin.pn0))])) ∧ ((AV.bool (cond Bool.true (cond Bool.false Bool.true ((Prod.snd (Pin.trustS (Pin.pnsOf (List.length (Prod.snd w2)) (Pin.pcs (Prod.snd w2))) (Pin.namedS (Raw3.a (List.getD l (Int.toNat (((Prod.fst w2) : Nat) : Int)) raw0))) (Pin.keyS ((Raw3.b (List.getD l (Int.toNat (((Prod.fst w2) : Nat) : Int)) raw0)) % 3)))) == 8)) Bool.false) = AV.bool Bool.true) ∧ ((x1 = x1) ∧ ((∀ w86 : Nat, (w86 < (Min.min x0 (Int.toNat 20)) → leR [AV.int IntKind.i64 (Raw3.kind (List.getD l w86 raw0)), AV.int IntKind.i64 (Raw3.a (List.getD l w86 raw0)), AV.int IntKind.i64 (Raw3.b (List.getD l w86 raw0)), AV.str (Raw3.text (List.getD l w86 raw0))] [AV.int IntKind.i64 (Raw3.kind (List.getD l w86 raw0)), AV.int IntKind.i64 (Raw3.a (List.getD l w86 raw0)), AV.int IntKind.i64 (Raw3.b (List.getD l w86 raw0)), AV.str (Raw3.text (List.getD l w86 raw0))])) ∧ ((AV.int IntKind.i64 x2 = AV.int IntKind.i64 x2) ∧ ((AV.int IntKind.i64 (wr IntKind.i64 ((((Prod.fst w2) : Nat) : Int) + 1)) = AV.int IntKind.i64 (((Prod.fst w84) : Nat) : Int)) ∧ True))))))))))))
 -- ELSE
 (ite2 ((Prod.snd (Pin.trustS (Pin.pnsOf (List.length (Prod.snd w2)) (Pin.pcs (Prod.snd w2))) (Pin.namedS (Raw3.a (List.getD l (Int.toNat (((Prod.fst w2) : Nat) : Int)) raw0))) (Pin.keyS ((Raw3.b (List.getD l (Int.toNat (((Prod.fst w2) : Nat) : Int)) raw0)) % 3)))) == 0)
 -- THEN
 ((∃ w87 : Nat × List Pn, ((((fun x => Inv.up (Prod.fst x)) w87) < ((fun x => Inv.up (Prod.fst x)) w2)) ∧ ((Inv.upTo [AV.int IntKind.i64 x2] (Prod.fst w87)) ∧ ((Pin.faultP (Prod.snd w87) = 0) ∧ (Prod.snd w87 = Pin.pinnedN l (Prod.fst w87))))) ∧ ((List.length (Prod.snd w2) = List.length (Prod.snd w87)) ∧ ((∀ w88 : Nat, (w88 < (List.length (Prod.snd w87)) → leR [AV.str (Pin.Pn.name (List.getD (Prod.snd w2) w88 Pin.pn0)), AV.b8 32 (Pin.Pn.key (List.getD (Prod.snd w2) w88 Pin.pn0)), AV.bool (Pin.Pn.gone (List.getD (Prod.snd w2) w88 Pin.pn0))] [AV.str (Pin.Pn.name (List.getD (Prod.snd w87) w88 Pin.pn0)), AV.b8 32 (Pin.Pn.key (List.getD (Prod.snd w87) w88 Pin.pn0)), AV.bool (Pin.Pn.gone (List.getD (Prod.snd w87) w88 Pin.pn0))])) ∧ ((AV.bool Bool.true = AV.bool Bool.true) ∧ ((x1 = x1) ∧ ((∀ w89 : Nat, (w89 < (Min.min x0 (Int.toNat 20)) → leR [AV.int IntKind.i64 (Raw3.kind (List.getD l w89 raw0)), AV.int IntKind.i64 (Raw3.a (List.getD l w89 raw0)), AV.int IntKind.i64 (Raw3.b (List.getD l w89 raw0)), AV.str (Raw3.text (List.getD l w89 raw0))] [AV.int IntKind.i64 (Raw3.kind (List.getD l w89 raw0)), AV.int IntKind.i64 (Raw3.a (List.getD l w89 raw0)), AV.int IntKind.i64 (Raw3.b (List.getD l w89 raw0)), AV.str (Raw3.text (List.getD l w89 raw0))])) ∧ ((AV.int IntKind.i64 x2 = AV.int IntKind.i64 x2) ∧ ((AV.int IntKind.i64 (wr IntKind.i64 ((((Prod.fst w2) : Nat) : Int) + 1)) = AV.int IntKind.i64 (((Prod.fst w87) : Nat) : Int)) ∧ True)))))))))
 -- ELSE
 (ite2 (cond Bool.false Bool.true ((Prod.snd (Pin.trustS (Pin.pnsOf (List.length (Prod.snd w2)) (Pin.pcs (Prod.snd w2))) (Pin.namedS (Raw3.a (List.getD l (Int.toNat (((Prod.fst w2) : Nat) : Int)) raw0))) (Pin.keyS ((Raw3.b (List.getD l (Int.toNat (((Prod.fst w2) : Nat) : Int)) raw0)) % 3)))) == 13))
 -- THEN
 ((∃ w90 : Nat × List Pn, ((((fun x => Inv.up (Prod.fst x)) w90) < ((fun x => Inv.up (Prod.fst x)) w2)) ∧ ((Inv.upTo [AV.int IntKind.i64 x2] (Prod.fst w90)) ∧ ((Pin.faultP (Prod.snd w90) = 0) ∧ (Prod.snd w90 = Pin.pinnedN l (Prod.fst w90))))) ∧ ((List.length (Prod.snd w2) = List.length (Prod.snd w90)) ∧ ((∀ w91 : Nat, (w91 < (List.length (Prod.snd w90)) → leR [AV.str (Pin.Pn.name (List.getD (Prod.snd w2) w91 Pin.pn0)), AV.b8 32 (Pin.Pn.key (List.getD (Prod.snd w2) w91 Pin.pn0)), AV.bool (Pin.Pn.gone (List.getD (Prod.snd w2) w91 Pin.pn0))] [AV.str (Pin.Pn.name (List.getD (Prod.snd w90) w91 Pin.pn0)), AV.b8 32 (Pin.Pn.key (List.getD (Prod.snd w90) w91 Pin.pn0)), AV.bool (Pin.Pn.gone (List.getD (Prod.snd w90) w91 Pin.pn0))])) ∧ ((AV.bool Bool.true = AV.bool Bool.true) ∧ ((x1 = x1) ∧ ((∀ w92 : Nat, (w92 < (Min.min x0 (Int.toNat 20)) → leR [AV.int IntKind.i64 (Raw3.kind (List.getD l w92 raw0)), AV.int IntKind.i64 (Raw3.a (List.getD l w92 raw0)), AV.int IntKind.i64 (Raw3.b (List.getD l w92 raw0)), AV.str (Raw3.text (List.getD l w92 raw0))] [AV.int IntKind.i64 (Raw3.kind (List.getD l w92 raw0)), AV.int IntKind.i64 (Raw3.a (List.getD l w92 raw0)), AV.int IntKind.i64 (Raw3.b (List.getD l w92 raw0)), AV.str (Raw3.text (List.getD l w92 raw0))])) ∧ ((AV.int IntKind.i64 x2 = AV.int IntKind.i64 x2) ∧ ((AV.int IntKind.i64 (wr IntKind.i64 ((((Prod.fst w2) : Nat) : Int) + 1)) = AV.int IntKind.i64 (((Prod.fst w90) : Nat) : Int)) ∧ True)))))))))
 -- ELSE
 (ite2 (cond Bool.false Bool.true ((Prod.snd (Pin.trustS (Pin.pnsOf (List.length (Prod.snd w2)) (Pin.pcs (Prod.snd w2))) (Pin.namedS (Raw3.a (List.getD l (Int.toNat (((Prod.fst w2) : Nat) : Int)) raw0))) (Pin.keyS ((Raw3.b (List.getD l (Int.toNat (((Prod.fst w2) : Nat) : Int)) raw0)) % 3)))) == 5))
 -- THEN
 ((∃ w93 : Nat × List Pn, ((((fun x => Inv.up (Prod.fst x)) w93) < ((fun x => Inv.up (Prod.fst x)) w2)) ∧ ((Inv.upTo [AV.int IntKind.i64 x2] (Prod.fst w93)) ∧ ((Pin.faultP (Prod.snd w93) = 0) ∧ (Prod.snd w93 = Pin.pinnedN l (Prod.fst w93))))) ∧ ((List.length (Prod.snd w2) = List.length (Prod.snd w93)) ∧ ((∀ w94 : Nat, (w94 < (List.length (Prod.snd w93)) → leR [AV.str (Pin.Pn.name (List.getD (Prod.snd w2) w94 Pin.pn0)), AV.b8 32 (Pin.Pn.key (List.getD (Prod.snd w2) w94 Pin.pn0)), AV.bool (Pin.Pn.gone (List.getD (Prod.snd w2) w94 Pin.pn0))] [AV.str (Pin.Pn.name (List.getD (Prod.snd w93) w94 Pin.pn0)), AV.b8 32 (Pin.Pn.key (List.getD (Prod.snd w93) w94 Pin.pn0)), AV.bool (Pin.Pn.gone (List.getD (Prod.snd w93) w94 Pin.pn0))])) ∧ ((AV.bool Bool.true = AV.bool Bool.true) ∧ ((x1 = x1) ∧ ((∀ w95 : Nat, (w95 < (Min.min x0 (Int.toNat 20)) → leR [AV.int IntKind.i64 (Raw3.kind (List.getD l w95 raw0)), AV.int IntKind.i64 (Raw3.a (List.getD l w95 raw0)), AV.int IntKind.i64 (Raw3.b (List.getD l w95 raw0)), AV.str (Raw3.text (List.getD l w95 raw0))] [AV.int IntKind.i64 (Raw3.kind (List.getD l w95 raw0)), AV.int IntKind.i64 (Raw3.a (List.getD l w95 raw0)), AV.int IntKind.i64 (Raw3.b (List.getD l w95 raw0)), AV.str (Raw3.text (List.getD l w95 raw0))])) ∧ ((AV.int IntKind.i64 x2 = AV.int IntKind.i64 x2) ∧ ((AV.int IntKind.i64 (wr IntKind.i64 ((((Prod.fst w2) : Nat) : Int) + 1)) = AV.int IntKind.i64 (((Prod.fst w93) : Nat) : Int)) ∧ True)))))))))
 -- ELSE
 ((∃ w96 : Nat × List Pn, ((((fun x => Inv.up (Prod.fst x)) w96) < ((fun x => Inv.up (Prod.fst x)) w2)) ∧ ((Inv.upTo [AV.int IntKind.i64 x2] (Prod.fst w96)) ∧ ((Pin.faultP (Prod.snd w96) = 0) ∧ (Prod.snd w96 = Pin.pinnedN l (Prod.fst w96))))) ∧ ((List.length (Prod.snd w2) = List.length (Prod.snd w96)) ∧ ((∀ w97 : Nat, (w97 < (List.length (Prod.snd w96)) → leR [AV.str (Pin.Pn.name (List.getD (Prod.snd w2) w97 Pin.pn0)), AV.b8 32 (Pin.Pn.key (List.getD (Prod.snd w2) w97 Pin.pn0)), AV.bool (Pin.Pn.gone (List.getD (Prod.snd w2) w97 Pin.pn0))] [AV.str (Pin.Pn.name (List.getD (Prod.snd w96) w97 Pin.pn0)), AV.b8 32 (Pin.Pn.key (List.getD (Prod.snd w96) w97 Pin.pn0)), AV.bool (Pin.Pn.gone (List.getD (Prod.snd w96) w97 Pin.pn0))])) ∧ ((AV.bool (cond Bool.true (cond Bool.false Bool.true ((Prod.snd (Pin.trustS (Pin.pnsOf (List.length (Prod.snd w2)) (Pin.pcs (Prod.snd w2))) (Pin.namedS (Raw3.a (List.getD l (Int.toNat (((Prod.fst w2) : Nat) : Int)) raw0))) (Pin.keyS ((Raw3.b (List.getD l (Int.toNat (((Prod.fst w2) : Nat) : Int)) raw0)) % 3)))) == 8)) Bool.false) = AV.bool Bool.true) ∧ ((x1 = x1) ∧ ((∀ w98 : Nat, (w98 < (Min.min x0 (Int.toNat 20)) → leR [AV.int IntKind.i64 (Raw3.kind (List.getD l w98 raw0)), AV.int IntKind.i64 (Raw3.a (List.getD l w98 raw0)), AV.int IntKind.i64 (Raw3.b (List.getD l w98 raw0)), AV.str (Raw3.text (List.getD l w98 raw0))] [AV.int IntKind.i64 (Raw3.kind (List.getD l w98 raw0)), AV.int IntKind.i64 (Raw3.a (List.getD l w98 raw0)), AV.int IntKind.i64 (Raw3.b (List.getD l w98 raw0)), AV.str (Raw3.text (List.getD l w98 raw0))])) ∧ ((AV.int IntKind.i64 x2 = AV.int IntKind.i64 x2) ∧ ((AV.int IntKind.i64 (wr IntKind.i64 ((((Prod.fst w2) : Nat) : Int) + 1)) = AV.int IntKind.i64 (((Prod.fst w96) : Nat) : Int)) ∧ True))))))))))))))))))
 -- ELSE
 (K (AV.tup [AV.vecr Bool.false 34 (List.length (Prod.snd w2)) (Pin.pcs (Prod.snd w2)), AV.bool Bool.true]) [])))) := by kernel_rfl

end Go.Proofs.Ytfpladpbnbpehaa

set_option linter.unusedSimpArgs false
set_option linter.unusedVariables false
namespace Go.Proofs.Ytfpladpbnbpehaa
open Go Go.V Go.Pin
set_option maxRecDepth 100000
set_option maxHeartbeats 2000000
theorem rawsOk (l : List Raw3) (n : Nat) : ∀ x, x < n → leR (rawsF l x) (rawsF l x) := fun x _ => leR.refl rfl
theorem r00 : ((0 : Int) == 0) = true := by decide
theorem r05 : ((0 : Int) == 5) = false := by decide
theorem r08 : ((0 : Int) == 8) = false := by decide
theorem r013 : ((0 : Int) == 13) = false := by decide
theorem r130 : ((13 : Int) == 0) = false := by decide
theorem r1313 : ((13 : Int) == 13) = true := by decide
theorem r50 : ((5 : Int) == 0) = false := by decide
theorem r513 : ((5 : Int) == 13) = false := by decide
theorem r55 : ((5 : Int) == 5) = true := by decide
theorem r80 : ((8 : Int) == 0) = false := by decide
theorem r813 : ((8 : Int) == 13) = false := by decide
theorem r85 : ((8 : Int) == 5) = false := by decide
theorem r88 : ((8 : Int) == 8) = true := by decide
/-- Pins of raw things: some that may be. -/
noncomputable def pinnedK (l : List Raw3) (v : AV) (H : Heap) : Prop := H = [] ∧ v = .tup [.vecr false 34 (pinnedN l (min l.length 20)).length (pcs (pinnedN l (min l.length 20))), .bool true]
theorem spinned_w (l : List Raw3) : walk Try.E R1 P5.C (fun _ _ => pinnedL l) 5 15 [.vecr false 4 l.length (rawsF l)] (pinnedK l) := by
  rw [spinned_eq]
  dsimp only
  have raws := rawsOk l (min l.length (Int.toNat 20))
  refine ⟨⟨(0, []), ⟨by rw [Inv.upTo_int]; show (0 : Int) ≤ _; omega, fault_nil, rfl⟩, ?_⟩, fun w hw => ?_⟩
  · repeat' apply And.intro
    all_goals first | rfl | trivial | exact raws | exact fun x h => absurd h (by simp)
  obtain ⟨i, P⟩ := w
  obtain ⟨hi, h0, hPN⟩ := hw
  dsimp only at hi h0 hPN ⊢
  rw [Inv.upTo_int] at hi
  have hP : P.length ≤ 8 := (faultP_iff.1 h0).1
  rcases Nat.lt_or_ge i (min l.length 20) with hlt | hge
  case inr =>
    rw [ltI_no (by omega), ite2_false]
    obtain rfl : i = min l.length 20 := by omega
    unfold pinnedK
    rw [← hPN]
    exact ⟨rfl, rfl⟩
  have hw2 : wr .i64 ((i : Int) + 1) = ((i + 1 : Nat) : Int) := by rw [wr_of (by omega) (by omega)]; rfl
  have hle : leB P.length 1000000000 = true := leB_of (by omega)
  have hin : inB ((i : Nat) : Int) (min l.length 20) = true := inB_of (by omega) (by omega)
  have nxt : ∀ M : List Pn, faultP M = 0 → stepS P (l.getD i raw0) = M → Inv.up (i + 1) < Inv.up i ∧ Inv.upTo [AV.int .i64 ((min l.length 20 : Nat) : Int)] (i + 1) ∧ faultP M = 0 ∧ M = pinnedN l (i + 1) := fun M hM hs =>
    ⟨Inv.up_lt (by omega), by rw [Inv.upTo_int]; omega, hM, by rw [pinnedN_succ (by omega), ← hPN, hs]⟩
  have hst : stepS P (l.getD i raw0) = stepS P (l.getD i raw0) := rfl
  conv at hst => rhs; unfold stepS
  rw [ltI_of (by omega), ite2_true]
  simp only [hw2, hle, hin, pins_of, isPns_pcs, Int.toNat_natCast, Bool.and_self, cnd_eq, true_and]
  have hn := named_ok (l.getD i raw0).a
  refine ite2_iff.2 ⟨fun hk => ?_, fun hk => ?_⟩
  · rw [hk, cond_true] at hst
    have hf := rotate_fine h0 (namedS (l.getD i raw0).a) (keyS ((l.getD i raw0).b % 3))
    rw [← rotateS_eq] at hf
    generalize rotateS P (namedS (l.getD i raw0).a) (keyS ((l.getD i raw0).b % 3)) = r at hf hst ⊢
    obtain ⟨M, e⟩ := r
    rcases hf with ⟨he, hM⟩ | he | he | he
    · dsimp only at he hM
      subst he
      simp only [r00, r05, r08, r013, ite2_true, ite2_false, cond_true, cond_false, cnd_eq, true_and, Bool.and_self, beq_self_eq_true]
      refine ⟨(i + 1, M), nxt M hM hst, ?_⟩
      repeat' apply And.intro
      all_goals first | rfl | trivial | exact raws | exact fun x _ => pcs_ok M x
    all_goals
      dsimp only at he
      subst he
      simp only [r130, r1313, r50, r513, r55, r80, r813, r85, r88, ite2_true, ite2_false, cond_true, cond_false, cnd_eq, true_and, Bool.and_self, beq_self_eq_true]
      refine ⟨(i + 1, P), nxt P h0 hst, ?_⟩
      repeat' apply And.intro
      all_goals first | rfl | trivial | exact raws | exact fun x _ => pcs_ok P x
  rw [hk, cond_false] at hst
  refine ite2_iff.2 ⟨fun hk => ?_, fun hk => ?_⟩
  · rw [hk, cond_true] at hst
    have hf := revoke_fine h0 (namedS (l.getD i raw0).a)
    rw [← revokeS_eq] at hf
    generalize revokeS P (namedS (l.getD i raw0).a) = r at hf hst ⊢
    obtain ⟨M, e⟩ := r
    rcases hf with ⟨he, hM⟩ | he | he | he
    · dsimp only at he hM
      subst he
      simp only [r00, r05, r08, r013, ite2_true, ite2_false, cond_true, cond_false, cnd_eq, true_and, Bool.and_self, beq_self_eq_true]
      refine ⟨(i + 1, M), nxt M hM hst, ?_⟩
      repeat' apply And.intro
      all_goals first | rfl | trivial | exact raws | exact fun x _ => pcs_ok M x
    all_goals
      dsimp only at he
      subst he
      simp only [r130, r1313, r50, r513, r55, r80, r813, r85, r88, ite2_true, ite2_false, cond_true, cond_false, cnd_eq, true_and, Bool.and_self, beq_self_eq_true]
      refine ⟨(i + 1, P), nxt P h0 hst, ?_⟩
      repeat' apply And.intro
      all_goals first | rfl | trivial | exact raws | exact fun x _ => pcs_ok P x
  rw [hk, cond_false] at hst
  refine ite2_iff.2 ⟨fun hk => ?_, fun hk => ?_⟩
  · rw [hk, cond_true] at hst
    have hf := forget_fine h0 (namedS (l.getD i raw0).a)
    rw [← forgetS_eq] at hf
    generalize forgetS P (namedS (l.getD i raw0).a) = r at hf hst ⊢
    obtain ⟨M, e⟩ := r
    rcases hf with ⟨he, hM⟩ | he | he | he
    · dsimp only at he hM
      subst he
      simp only [r00, r05, r08, r013, ite2_true, ite2_false, cond_true, cond_false, cnd_eq, true_and, Bool.and_self, beq_self_eq_true]
      refine ⟨(i + 1, M), nxt M hM hst, ?_⟩
      repeat' apply And.intro
      all_goals first | rfl | trivial | exact raws | exact fun x _ => pcs_ok M x
    all_goals
      dsimp only at he
      subst he
      simp only [r130, r1313, r50, r513, r55, r80, r813, r85, r88, ite2_true, ite2_false, cond_true, cond_false, cnd_eq, true_and, Bool.and_self, beq_self_eq_true]
      refine ⟨(i + 1, P), nxt P h0 hst, ?_⟩
      repeat' apply And.intro
      all_goals first | rfl | trivial | exact raws | exact fun x _ => pcs_ok P x
  · rw [hk, cond_false] at hst
    have hf := trust_fine h0 (k := (keyS ((l.getD i raw0).b % 3))) hn
    rw [← trustS_eq] at hf
    generalize trustS P (namedS (l.getD i raw0).a) (keyS ((l.getD i raw0).b % 3)) = r at hf hst ⊢
    obtain ⟨M, e⟩ := r
    rcases hf with ⟨he, hM⟩ | he | he | he
    · dsimp only at he hM
      subst he
      simp only [r00, r05, r08, r013, ite2_true, ite2_false, cond_true, cond_false, cnd_eq, true_and, Bool.and_self, beq_self_eq_true]
      refine ⟨(i + 1, M), nxt M hM hst, ?_⟩
      repeat' apply And.intro
      all_goals first | rfl | trivial | exact raws | exact fun x _ => pcs_ok M x
    all_goals
      dsimp only at he
      subst he
      simp only [r130, r1313, r50, r513, r55, r80, r813, r85, r88, ite2_true, ite2_false, cond_true, cond_false, cnd_eq, true_and, Bool.and_self, beq_self_eq_true]
      refine ⟨(i + 1, P), nxt P h0 hst, ?_⟩
      repeat' apply And.intro
      all_goals first | rfl | trivial | exact raws | exact fun x _ => pcs_ok P x
theorem pinnedN_ok {l : List Raw3} : ∀ i, i ≤ l.length → faultP (pinnedN l i) = 0
  | 0, _ => fault_nil
  | i + 1, h => by
    have ih := pinnedN_ok i (by omega : i ≤ l.length)
    rw [pinnedN_succ (by omega)]
    have key : ∀ r, Fine r → faultP (sel (pinnedN l i) r) = 0 := fun r hr => by
      unfold sel
      rcases hr with ⟨h1, h2⟩ | h1 | h1 | h1 <;> rw [h1]
      · exact h2
      all_goals exact ih
    unfold stepS
    rw [rotateS_eq, revokeS_eq, forgetS_eq, trustS_eq]
    cases (l.getD i raw0).kind % 6 == 0 with
    | true => exact key _ (rotate_fine ih _ _)
    | false => cases (l.getD i raw0).kind % 6 == 1 with
      | true => exact key _ (revoke_fine ih _)
      | false => cases (l.getD i raw0).kind % 6 == 2 with
        | true => exact key _ (forget_fine ih _)
        | false => exact key _ (trust_fine ih (named_ok _))
theorem spinned_c (l : List Raw3) : HCall Try.E 15 [.vecr false 4 l.length (rawsF l)] (.ret (.tup [.vecr false 34 (pinnedN l (min l.length 20)).length (pcs (pinnedN l (min l.length 20))), .bool true]) []) := by
  refine ⟨rfl, rfl, fun ρ I w vs c r => (ACall.of_walk (spinned_w l) ρ I w vs c r).mono ?_⟩
  rintro e w' ⟨x, rfl, ρ', I', v, H', gd, c', hr, rfl, rfl⟩
  exact ⟨x, rfl, ρ', I', _, [], gd, c', hr, rfl, rfl⟩
end Go.Proofs.Ytfpladpbnbpehaa

set_option linter.unusedSimpArgs false
set_option linter.unusedVariables false
namespace Go.Proofs.Ytfpladpbnbpehaa
open Go Go.V Go.Pin
set_option maxHeartbeats 0
set_option maxRecDepth 100000

theorem ptells_eq (K : AV → Heap → Prop) : walk Try.E R1 P5.C (fun _ _ => .unroll 3) 6 20 [] K = (
 let x0 : List Pn := (Pin.pnsOf 0 noRows)
 let x1 : List UInt8 := (Array.toList (ByteArray.data (ByteArray.mk (List.toArray [97]))))
 let x2 : List UInt8 := [0, 0, 0, 0, 0, 0, 0, 0, 0, 0, 0, 0, 0, 0, 0, 0, 0, 0, 0, 0, 0, 0, 0, 0, 0, 0, 0, 0, 0, 0, 0, 0]
 let x3 : List Pn := (Prod.fst (Pin.trustS x0 x1 (List.set x2 ((Prod.fst (0, Operand.const (Value.int IntKind.u8 1))) * (TI.size Try.ti5)) (UInt8.ofNat (Int.toNat 1)))))
 let x4 : Nat := (List.length x3)
 let x5 : List UInt8 := (List.set x2 0 1)
 cnd (Bool.true && (Pin.isPns 0 noRows))
 (cnd ((leB x4 1000000000) && (Pin.isPns x4 (Pin.pcs x3)))
 (ite2 ((Prod.snd (Pin.trustS x0 x1 x5)) == 0)
 -- THEN
 (ite2 (cond Bool.true ((Prod.snd (Pin.findS (Pin.pnsOf x4 (Pin.pcs x3)) x1)) == 0) Bool.false)
 -- THEN
 (K (AV.bool (cond Bool.true ((Pin.Pn.key (Prod.fst (Pin.findS (Pin.pnsOf x4 (Pin.pcs x3)) x1))) == x5) Bool.false)) [])
 -- ELSE
 (K (AV.bool Bool.false) []))
 -- ELSE
 (K (AV.bool Bool.false) [])))) := by kernel_rfl

end Go.Proofs.Ytfpladpbnbpehaa

set_option linter.unusedSimpArgs false
set_option linter.unusedVariables false
namespace Go.Proofs.Ytfpladpbnbpehaa
open Go Go.V Go.Pin
set_option maxRecDepth 100000
theorem pns_none : pnsOf 0 noRows = [] := pnsOf_eq [] rfl fun i hi => by omega
theorem isPns_none : isPns 0 noRows = true := isPns_iff.2 ⟨[], rfl, fun i hi => by omega⟩
theorem ptells_c : HCall Try.E 20 [] (.ret (.bool true) []) := by
  refine HCall.of_walk (R := R1) (T := P5) (fun _ _ => .unroll 3) 6 rfl rfl ?_
  rw [ptells_eq]
  dsimp only
  have e2 : ∀ k : List UInt8, trustP [] [97] k = ([⟨[97], k, false⟩], 0) := fun k => rfl
  have e3 : ∀ k : List UInt8, findP [⟨[97], k, false⟩] [97] = (⟨[97], k, false⟩, 0) := fun k => rfl
  rw [pns_none, isPns_none, trustS_eq, findS_eq, e2, e2, pins_of, isPns_pcs, e3]
  exact ⟨rfl, rfl⟩
end Go.Proofs.Ytfpladpbnbpehaa

set_option linter.unusedSimpArgs false
set_option linter.unusedVariables false
namespace Go.Proofs.Ytfpladpbnbpehaa
open Go Go.V Go.Pin
noncomputable def P6 : Ctr Try.E := (P5.add 20 (fun
    | [] => some (true, .ret (.bool true) [])
    | _ => none) (by
      intro args pre out h hp
      split at h
      · simp only [Option.some.injEq, Prod.mk.injEq] at h
        obtain ⟨rfl, rfl⟩ := h
        exact ptells_c
      · simp at h)).add 15 (fun
    | [.vecr _ 4 n f] => some (Frm.isRaws n f, .ret (.tup [.vecr false 34 (pinnedN (Frm.rawsOf n f) (min n 20)).length (pcs (pinnedN (Frm.rawsOf n f) (min n 20))), .bool true]) [])
    | _ => none) (by
      intro args pre out h hp
      split at h
      · simp only [Option.some.injEq, Prod.mk.injEq] at h
        obtain ⟨rfl, rfl⟩ := h
        obtain ⟨l, rfl, rfl⟩ := Frm.isRaws_iff.1 hp
        rw [Frm.rawsOf_eq]
        refine HCall.args (spinned_c l) rfl fun ρ I w vs r => ?_
        obtain ⟨x, xs, rfl, k1, k2⟩ := RV_cons.1 r
        exact RV_cons.2 ⟨x, xs, rfl, leV_vecr (by simp) (fun i hi => leR.refl rfl) _ _ _ _ k1, k2⟩
      · simp at h)
end Go.Proofs.Ytfpladpbnbpehaa

set_option linter.unusedSimpArgs false
set_option linter.unusedVariables false
namespace Go.Proofs.Ytfpladpbnbpehaa
open Go Go.V Go.Pin
noncomputable def pencL (L : List Pn) : LPlan := .mv [17, 18] [18] Nat Inv.upTo Inv.up (fun s => [s.t.getD 5 .any]) (fun n i => [(19, .int .i64 ((i : Nat) : Int)), (5, .sl n 0 1 (pencs L i).length)]) (fun _ _ => [(0, .dead)]) (fun i => [.grow8 (pencs L i) []])
noncomputable def pdecL (b : List UInt8) : LPlan := .mv [20] [20] DS (fun g x => Inv.upTo g x.i ∧ x.i ≤ (b.getD 0 0).toNat ∧ x.out.length = x.i ∧ x.rest.length ≤ b.length ∧ decN (b.getD 0 0).toNat (b.drop 1) [] = decN ((b.getD 0 0).toNat - x.i) x.rest x.out) (fun x => Inv.up x.i) (fun s => [s.t.getD 4 .any])
  (fun n x => [(0, .vec8 false x.rest), (4, .slv n 34 x.out.length (pcs x.out)), (21, .int .i64 ((x.i : Nat) : Int))]) (fun _ _ => []) (fun x => [.tail 34 x.out.length])
end Go.Proofs.Ytfpladpbnbpehaa

set_option linter.unusedSimpArgs false
set_option linter.unusedVariables false
namespace Go.Proofs.Ytfpladpbnbpehaa
open Go Go.V Go.Pin
set_option maxHeartbeats 0
set_option maxRecDepth 100000

theorem pEncode_eq (full : Bool) (L : List Pn) (K : AV → Heap → Prop) : walk Try.E R1 P6.C (fun _ _ => pencL L) 5 24 [.vecr full 34 L.length (pcs L)] K = (
 let x0 : Nat := (List.length L)
 let x1 : Int := (Pin.faultPS (Pin.pnsOf x0 (Pin.pcs L)))
 let x2 : Int := ((x0 : Nat) : Int)
 let x3 : Bool := (full || (Bool.not full)) && Bool.true
 let x4 : Nat := 140737488355328
 cnd ((leB x0 1000000000) && (Pin.isPns x0 (Pin.pcs L)))
 (ite2 (x1 != 0)
 -- THEN
 (K (AV.tup [AV.vec8 Bool.true [], AV.int IntKind.i64 x1]) [])
 -- ELSE
 ((∃ w0 : Nat, (Inv.upTo [AV.int IntKind.i64 x2] w0) ∧ ((1 = List.length (Pin.pencs L w0)) ∧ cnd (x3)
 ((x0 = x0) ∧ ((∀ w1 : Nat, (w1 < x0 → leR [AV.str (Pin.Pn.name (List.getD L w1 Pin.pn0)), AV.b8 32 (Pin.Pn.key (List.getD L w1 Pin.pn0)), AV.bool (Pin.Pn.gone (List.getD L w1 Pin.pn0))] [AV.str (Pin.Pn.name (List.getD L w1 Pin.pn0)), AV.b8 32 (Pin.Pn.key (List.getD L w1 Pin.pn0)), AV.bool (Pin.Pn.gone (List.getD L w1 Pin.pn0))])) ∧ ((AV.int IntKind.i64 x2 = AV.int IntKind.i64 x2) ∧ ((AV.int IntKind.i64 0 = AV.int IntKind.i64 ((w0 : Nat) : Int)) ∧ (([UInt8.ofNat (Int.toNat (x2 % 256))] = Pin.pencs L w0) ∧ True))))))) ∧ (∀ w2 : Nat, (Inv.upTo [AV.int IntKind.i64 x2] w2 → ite2 (ltI ((w2 : Nat) : Int) x2)
 -- THEN
 (cnd ((inB ((w2 : Nat) : Int) x0) && Bool.true)
 (cnd ((List.length (Pin.pencs L w2)) == (List.length (Pin.pencs L w2)))
 (cnd (leB (((List.length (Pin.pencs L w2)) + 1) * 1) x4)
 (cnd (((List.length (Pin.pencs L w2)) + 1) == (List.length ((Pin.pencs L w2) ++ (List.take 1 (List.drop 0 [UInt8.ofNat (Int.toNat ((((List.length (Pin.Pn.name (List.getD L (Int.toNat ((w2 : Nat) : Int)) Pin.pn0))) : Nat) : Int) % 256))])))))
 (cnd (leB ((((List.length (Pin.pencs L w2)) + 1) + (List.length (Pin.Pn.name (List.getD L (Int.toNat ((w2 : Nat) : Int)) Pin.pn0)))) * 1) x4)
 (cnd ((((List.length (Pin.pencs L w2)) + 1) + (List.length (Pin.Pn.name (List.getD L (Int.toNat ((w2 : Nat) : Int)) Pin.pn0)))) == (List.length (((Pin.pencs L w2) ++ (List.take 1 (List.drop 0 [UInt8.ofNat (Int.toNat ((((List.length (Pin.Pn.name (List.getD L (Int.toNat ((w2 : Nat) : Int)) Pin.pn0))) : Nat) : Int) % 256))]))) ++ (Pin.Pn.name (List.getD L (Int.toNat ((w2 : Nat) : Int)) Pin.pn0)))))
 (cnd (leB (((((List.length (Pin.pencs L w2)) + 1) + (List.length (Pin.Pn.name (List.getD L (Int.toNat ((w2 : Nat) : Int)) Pin.pn0)))) + (List.length (Pin.Pn.key (List.getD L (Int.toNat ((w2 : Nat) : Int)) Pin.pn0)))) * 1) x4)
 (ite2 (Pin.Pn.gone (List.getD L (Int.toNat ((w2 : Nat) : Int)) Pin.pn0))
 -- THEN
 (cnd (((((List.length (Pin.pencs L w2)) + 1) + (List.length (Pin.Pn.name (List.getD L (Int.toNat ((w2 : Nat) : Int)) Pin.pn0)))) + (List.length (Pin.Pn.key (List.getD L (Int.toNat ((w2 : Nat) : Int)) Pin.pn0)))) == (List.length ((((Pin.pencs L w2) ++ (List.take 1 (List.drop 0 [UInt8.ofNat (Int.toNat ((((List.length (Pin.Pn.name (List.getD L (Int.toNat ((w2 : Nat) : Int)) Pin.pn0))) : Nat) : Int) % 256))]))) ++ (Pin.Pn.name (List.getD L (Int.toNat ((w2 : Nat) : Int)) Pin.pn0))) ++ (Pin.Pn.key (List.getD L (Int.toNat ((w2 : Nat) : Int)) Pin.pn0)))))
 (cnd (leB ((((((List.length (Pin.pencs L w2)) + 1) + (List.length (Pin.Pn.name (List.getD L (Int.toNat ((w2 : Nat) : Int)) Pin.pn0)))) + (List.length (Pin.Pn.key (List.getD L (Int.toNat ((w2 : Nat) : Int)) Pin.pn0)))) + 1) * 1) x4)
 ((∃ w3 : Nat, (((Inv.up w3) < (Inv.up w2)) ∧ (Inv.upTo [AV.int IntKind.i64 x2] w3)) ∧ ((((((List.length (Pin.pencs L w2)) + 1) + (List.length (Pin.Pn.name (List.getD L (Int.toNat ((w2 : Nat) : Int)) Pin.pn0)))) + (List.length (Pin.Pn.key (List.getD L (Int.toNat ((w2 : Nat) : Int)) Pin.pn0)))) + 1 = List.length (Pin.pencs L w3)) ∧ cnd (x3)
 ((x0 = x0) ∧ ((∀ w4 : Nat, (w4 < x0 → leR [AV.str (Pin.Pn.name (List.getD L w4 Pin.pn0)), AV.b8 32 (Pin.Pn.key (List.getD L w4 Pin.pn0)), AV.bool (Pin.Pn.gone (List.getD L w4 Pin.pn0))] [AV.str (Pin.Pn.name (List.getD L w4 Pin.pn0)), AV.b8 32 (Pin.Pn.key (List.getD L w4 Pin.pn0)), AV.bool (Pin.Pn.gone (List.getD L w4 Pin.pn0))])) ∧ ((AV.int IntKind.i64 x2 = AV.int IntKind.i64 x2) ∧ ((AV.int IntKind.i64 (wr IntKind.i64 (((w2 : Nat) : Int) + 1)) = AV.int IntKind.i64 ((w3 : Nat) : Int)) ∧ ((((((Pin.pencs L w2) ++ (List.take 1 (List.drop 0 [UInt8.ofNat (Int.toNat ((((List.length (Pin.Pn.name (List.getD L (Int.toNat ((w2 : Nat) : Int)) Pin.pn0))) : Nat) : Int) % 256))]))) ++ (Pin.Pn.name (List.getD L (Int.toNat ((w2 : Nat) : Int)) Pin.pn0))) ++ (Pin.Pn.key (List.getD L (Int.toNat ((w2 : Nat) : Int)) Pin.pn0))) ++ (List.take 1 (List.drop 0 [1])) = Pin.pencs L w3) ∧ True))))))))))
 -- ELSE
 (cnd (((((List.length (Pin.pencs L w2)) + 1) + (List.length (Pin.Pn.name (List.getD L (Int.toNat ((w2 : Nat) : Int)) Pin.pn0)))) + (List.length (Pin.Pn.key (List.getD L (Int.toNat ((w2 : Nat) : Int)) Pin.pn0)))) == (List.length ((((Pin.pencs L w2) ++ (List.take 1 (List.drop 0 [UInt8.ofNat (Int.toNat ((((List.length (Pin.Pn.name (List.getD L (Int.toNat ((w2 : Nat) : Int)) Pin.pn0))) : Nat) : Int) % 256))]))) ++ (Pin.Pn.name (List.getD L (Int.toNat ((w2 : Nat) : Int)) Pin.pn0))) ++ (Pin.Pn.key (List.getD L (Int.toNat ((w2 : Nat) : Int)) Pin.pn0)))))
 (cnd (leB ((((((List.length (Pin.pencs L w2)) + 1) + (List.length (Pin.Pn.name (List.getD L (Int.toNat ((w2 : Nat) : Int)) Pin.pn0)))) + (List.length (Pin.Pn.key (List.getD L (Int.toNat ((w2 : Nat) : Int)) Pin.pn0)))) + 1) * 1) x4)
 ((∃ w5 : Nat, (((Inv.up w5) < (Inv.up w2)) ∧ (Inv.upTo [AV.int IntKind.i64 x2] w5)) ∧ ((((((List.length (Pin.pencs L w2)) + 1) + (List.length (Pin.Pn.name (List.getD L (Int.toNat ((w2 : Nat) : Int)) Pin.pn0)))) + (List.length (Pin.Pn.key (List.getD L (Int.toNat ((w2 : Nat) : Int)) Pin.pn0)))) + 1 = List.length (Pin.pencs L w5)) ∧ cnd (x3)
 ((x0 = x0) ∧ ((∀ w6 : Nat, (w6 < x0 → leR [AV.str (Pin.Pn.name (List.getD L w6 Pin.pn0)), AV.b8 32 (Pin.Pn.key (List.getD L w6 Pin.pn0)), AV.bool (Pin.Pn.gone (List.getD L w6 Pin.pn0))] [AV.str (Pin.Pn.name (List.getD L w6 Pin.pn0)), AV.b8 32 (Pin.Pn.key (List.getD L w6 Pin.pn0)), AV.bool (Pin.Pn.gone (List.getD L w6 Pin.pn0))])) ∧ ((AV.int IntKind.i64 x2 = AV.int IntKind.i64 x2) ∧ ((AV.int IntKind.i64 (wr IntKind.i64 (((w2 : Nat) : Int) + 1)) = AV.int IntKind.i64 ((w5 : Nat) : Int)) ∧ ((((((Pin.pencs L w2) ++ (List.take 1 (List.drop 0 [UInt8.ofNat (Int.toNat ((((List.length (Pin.Pn.name (List.getD L (Int.toNat ((w2 : Nat) : Int)) Pin.pn0))) : Nat) : Int) % 256))]))) ++ (Pin.Pn.name (List.getD L (Int.toNat ((w2 : Nat) : Int)) Pin.pn0))) ++ (Pin.Pn.key (List.getD L (Int.toNat ((w2 : Nat) : Int)) Pin.pn0))) ++ (List.take 1 (List.drop 0 [0])) = Pin.pencs L w5) ∧ True))))))))))))))))))
 -- ELSE
 (K (AV.tup [AV.sl 0 0 1 (List.length (Pin.pencs L w2)), AV.int IntKind.i64 0]) [Ent.grow8 (Pin.pencs L w2) []])))))) := by kernel_rfl

theorem pDecode_eq (full : Bool) (b : List UInt8) (K : AV → Heap → Prop) : walk Try.E R1 P6.C (fun _ _ => pdecL b) 5 23 [.vec8 full b] K = (
 let x0 : Nat := (List.length b)
 let x1 : Nat := (UInt8.toNat (List.getD b 0 0))
 let x2 : Int := ((x1 : Nat) : Int)
 ite2 (((x0 : Nat) : Int) == 0)
 -- THEN
 (K (AV.tup [AV.vec8 Bool.true [], AV.int IntKind.i64 4]) [])
 -- ELSE
 (cnd ((inB 0 x0) && Bool.true)
 (cnd (leB (0 + x0) x0)
 (cnd (Bool.true && (sliceOk (Option.some 1) Option.none x0))
 (ite2 (ltI 8 x2)
 -- THEN
 (K (AV.tup [AV.vec8 Bool.true [], AV.int IntKind.i64 1]) [])
 -- ELSE
 ((∃ w0 : DS, ((Inv.upTo [AV.int IntKind.i64 x2] (Pin.DS.i w0)) ∧ (((Pin.DS.i w0) ≤ x1) ∧ ((List.length (Pin.DS.out w0) = Pin.DS.i w0) ∧ (((List.length (Pin.DS.rest w0)) ≤ x0) ∧ (Pin.decN x1 (List.drop 1 b) [] = Pin.decN (x1 - (Pin.DS.i w0)) (Pin.DS.rest w0) (Pin.DS.out w0)))))) ∧ cnd ((full && Bool.true) || Bool.true)
 ((sliceL (Option.some 1) Option.none b = Pin.DS.rest w0) ∧ ((0 = List.length (Pin.DS.out w0)) ∧ ((AV.int IntKind.i64 x2 = AV.int IntKind.i64 x2) ∧ ((AV.int IntKind.i64 0 = AV.int IntKind.i64 (((Pin.DS.i w0) : Nat) : Int)) ∧ cnd (nilE (Ent.tail 34 (List.length (Pin.DS.out w0))))
 (True)))))) ∧ (∀ w1 : DS, ((Inv.upTo [AV.int IntKind.i64 x2] (Pin.DS.i w1)) ∧ (((Pin.DS.i w1) ≤ x1) ∧ ((List.length (Pin.DS.out w1) = Pin.DS.i w1) ∧ (((List.length (Pin.DS.rest w1)) ≤ x0) ∧ (Pin.decN x1 (List.drop 1 b) [] = Pin.decN (x1 - (Pin.DS.i w1)) (Pin.DS.rest w1) (Pin.DS.out w1))))) → ite2 (ltI (((Pin.DS.i w1) : Nat) : Int) x2)
 -- THEN
 (ite2 ((((List.length (Pin.DS.rest w1)) : Nat) : Int) == 0)
 -- THEN
 (K (AV.tup [AV.vec8 Bool.true [], AV.int IntKind.i64 4]) [])
 -- ELSE
 (cnd ((inB 0 (List.length (Pin.DS.rest w1))) && Bool.true)
 (cnd (leB (0 + (List.length (Pin.DS.rest w1))) (List.length (Pin.DS.rest w1)))
 (ite2 (cond Bool.false Bool.true (ltI (((List.length (Pin.DS.rest w1)) : Nat) : Int) (wr IntKind.i64 (34 + (((UInt8.toNat (List.getD (Pin.DS.rest w1) 0 0)) : Nat) : Int)))))
 -- THEN
 (K (AV.tup [AV.vec8 Bool.true [], AV.int IntKind.i64 4]) [])
 -- ELSE
 (cnd ((inB 0 (List.length (Pin.DS.rest w1))) && Bool.true)
 (cnd (leB (0 + (List.length (Pin.DS.rest w1))) (List.length (Pin.DS.rest w1)))
 (cnd (Bool.true && (sliceOk (Option.some 1) (Option.some (wr IntKind.i64 (1 + (((UInt8.toNat (List.getD (Pin.DS.rest w1) 0 0)) : Nat) : Int)))) (List.length (Pin.DS.rest w1))))
 (cnd ((inB (wr IntKind.i64 ((wr IntKind.i64 (1 + (((UInt8.toNat (List.getD (Pin.DS.rest w1) 0 0)) : Nat) : Int))) + 32)) (List.length (Pin.DS.rest w1))) && Bool.true)
 (cnd (leB (0 + (List.length (Pin.DS.rest w1))) (List.length (Pin.DS.rest w1)))
 (cnd (Bool.true && (sliceOk (Option.some (wr IntKind.i64 (1 + (((UInt8.toNat (List.getD (Pin.DS.rest w1) 0 0)) : Nat) : Int)))) Option.none (List.length (Pin.DS.rest w1))))
 (cnd ((inB (wr IntKind.i64 ((wr IntKind.i64 (1 + (((UInt8.toNat (List.getD (Pin.DS.rest w1) 0 0)) : Nat) : Int))) + 32)) (List.length (Pin.DS.rest w1))) && Bool.true)
 (cnd (leB (0 + (List.length (Pin.DS.rest w1))) (List.length (Pin.DS.rest w1)))
 (ite2 (ltI 1 (((UInt8.toNat (List.getD (Pin.DS.rest w1) (ofs 0 (wr IntKind.i64 ((wr IntKind.i64 (1 + (((UInt8.toNat (List.getD (Pin.DS.rest w1) 0 0)) : Nat) : Int))) + 32))) 0)) : Nat) : Int))
 -- THEN
 (K (AV.tup [AV.vec8 Bool.true [], AV.int IntKind.i64 3]) [])
 -- ELSE
 (cnd ((List.length (Pin.DS.out w1)) == (List.length (Pin.DS.out w1)))
 (cnd (leB (((List.length (Pin.DS.out w1)) + 1) * 56) 140737488355328)
 (cnd (Bool.true && (sliceOk (Option.some (wr IntKind.i64 ((wr IntKind.i64 (1 + (((UInt8.toNat (List.getD (Pin.DS.rest w1) 0 0)) : Nat) : Int))) + 33))) Option.none (List.length (Pin.DS.rest w1))))
 ((∃ w2 : DS, ((((fun x => Inv.up (Pin.DS.i x)) w2) < ((fun x => Inv.up (Pin.DS.i x)) w1)) ∧ ((Inv.upTo [AV.int IntKind.i64 x2] (Pin.DS.i w2)) ∧ (((Pin.DS.i w2) ≤ x1) ∧ ((List.length (Pin.DS.out w2) = Pin.DS.i w2) ∧ (((List.length (Pin.DS.rest w2)) ≤ x0) ∧ (Pin.decN x1 (List.drop 1 b) [] = Pin.decN (x1 - (Pin.DS.i w2)) (Pin.DS.rest w2) (Pin.DS.out w2))))))) ∧ ((sliceL (Option.some (wr IntKind.i64 ((wr IntKind.i64 (1 + (((UInt8.toNat (List.getD (Pin.DS.rest w1) 0 0)) : Nat) : Int))) + 33))) Option.none (Pin.DS.rest w1) = Pin.DS.rest w2) ∧ (((List.length (Pin.DS.out w1)) + 1 = List.length (Pin.DS.out w2)) ∧ ((∀ w3 : Nat, (w3 < (List.length (Pin.DS.out w2)) → leR (catF (List.length (Pin.DS.out w1)) (Pin.pcs (Pin.DS.out w1)) (rowF [AV.agg [AV.str (sliceL (Option.some 1) (Option.some (wr IntKind.i64 (1 + (((UInt8.toNat (List.getD (Pin.DS.rest w1) 0 0)) : Nat) : Int)))) (Pin.DS.rest w1)), AV.b8 32 ((List.take 32 (sliceL (Option.some (wr IntKind.i64 (1 + (((UInt8.toNat (List.getD (Pin.DS.rest w1) 0 0)) : Nat) : Int)))) Option.none (Pin.DS.rest w1))) ++ (List.drop (Min.min (List.length (sliceL (Option.some (wr IntKind.i64 (1 + (((UInt8.toNat (List.getD (Pin.DS.rest w1) 0 0)) : Nat) : Int)))) Option.none (Pin.DS.rest w1))) 32) [0, 0, 0, 0, 0, 0, 0, 0, 0, 0, 0, 0, 0, 0, 0, 0, 0, 0, 0, 0, 0, 0, 0, 0, 0, 0, 0, 0, 0, 0, 0, 0])), AV.bool ((((UInt8.toNat (List.getD (Pin.DS.rest w1) (ofs 0 (wr IntKind.i64 ((wr IntKind.i64 (1 + (((UInt8.toNat (List.getD (Pin.DS.rest w1) 0 0)) : Nat) : Int))) + 32))) 0)) : Nat) : Int) == 1)]]) w3) [AV.str (Pin.Pn.name (List.getD (Pin.DS.out w2) w3 Pin.pn0)), AV.b8 32 (Pin.Pn.key (List.getD (Pin.DS.out w2) w3 Pin.pn0)), AV.bool (Pin.Pn.gone (List.getD (Pin.DS.out w2) w3 Pin.pn0))])) ∧ ((AV.int IntKind.i64 x2 = AV.int IntKind.i64 x2) ∧ ((AV.int IntKind.i64 (wr IntKind.i64 ((((Pin.DS.i w1) : Nat) : Int) + 1)) = AV.int IntKind.i64 (((Pin.DS.i w2) : Nat) : Int)) ∧ (((List.length (Pin.DS.out w1)) + 1 = List.length (Pin.DS.out w2)) ∧ True))))))))))))))))))))))))
 -- ELSE
 (ite2 (ltI 0 (((List.length (Pin.DS.rest w1)) : Nat) : Int))
 -- THEN
 (K (AV.tup [AV.vec8 Bool.true [], AV.int IntKind.i64 3]) [])
 -- ELSE
 (cnd ((leB (List.length (Pin.DS.out w1)) 1000000000) && (Pin.isPns (List.length (Pin.DS.out w1)) (Pin.pcs (Pin.DS.out w1))))
 (ite2 ((Pin.faultPS (Pin.pnsOf (List.length (Pin.DS.out w1)) (Pin.pcs (Pin.DS.out w1)))) != 0)
 -- THEN
 (K (AV.tup [AV.vec8 Bool.true [], AV.int IntKind.i64 (Pin.faultPS (Pin.pnsOf (List.length (Pin.DS.out w1)) (Pin.pcs (Pin.DS.out w1))))]) [])
 -- ELSE
 (K (AV.tup [AV.slv 0 34 (List.length (Pin.DS.out w1)) (Pin.pcs (Pin.DS.out w1)), AV.int IntKind.i64 0]) [Ent.tail 34 (List.length (Pin.DS.out w1))])))))))))))) := by kernel_rfl

end Go.Proofs.Ytfpladpbnbpehaa

set_option linter.unusedSimpArgs false
set_option linter.unusedVariables false
namespace Go.Proofs.Ytfpladpbnbpehaa
open Go Go.V Go.Pin
set_option maxRecDepth 100000
noncomputable def pencO (L : List Pn) : Out := .ret (.tup [.vec8 false (encS L).1, .int .i64 (encS L).2]) []
theorem pencs_succ {L : List Pn} {i : Nat} (h : i < L.length) : pencs L (i + 1) = pencs L i ++ penc1 (L.getD i pn0) := by
  unfold pencs
  rw [List.take_add_one, List.map_append, List.flatten_append, List.getD_eq_getElem?_getD, List.getElem?_eq_getElem h, List.append_assoc]
  simp
theorem pencs_len {L : List Pn} (hn : pinsOk L = true) (hk : keys32 L = true) : ∀ i, i ≤ L.length → (pencs L i).length ≤ 1 + 50 * i
  | 0, _ => by unfold pencs; simp
  | i + 1, h => by
    have ih := pencs_len hn hk i (by omega)
    rw [pencs_succ (by omega), List.length_append]
    have h1 := (pinsOk_iff.1 hn i (by omega)).1
    have h2 : (L.getD i pn0).key.length = 32 := by
      have := List.all_eq_true.1 hk (L.getD i pn0) (by rw [List.getD_eq_getElem?_getD, List.getElem?_eq_getElem (by omega)]; exact List.getElem_mem _)
      simpa using this
    have h3 : (L.getD i pn0).name.length ≤ 16 := by
      unfold nm nameOk at h1
      rw [Bool.and_eq_true] at h1
      exact leB_iff.1 h1.2
    have : (penc1 (L.getD i pn0)).length = 1 + (L.getD i pn0).name.length + (L.getD i pn0).key.length + 1 := by
      unfold penc1; simp only [List.length_append]; rfl
    omega
theorem pEncode_c (full : Bool) (L : List Pn) (hL : L.length ≤ 1000000000) (hk : keys32 L = true) : HCall Try.E 24 [.vecr full 34 L.length (pcs L)] (pencO L) := by
  refine HCall.of_walkC (R := R1) (T := P6) (fun _ _ => pencL L) 5 rfl rfl ?_
  rw [pEncode_eq]
  dsimp only
  have hfa : (full || !full) = true := by cases full <;> rfl
  have ra : ∀ x, x < L.length → leR (pcs L x) (pcs L x) := fun x _ => pcs_ok L x
  rw [pins_of, faultPS_eq, isPns_pcs, leB_of hL, hfa]
  unfold pencO
  rw [encS_eq]
  obtain ⟨r, hr⟩ : ∃ r, encP L = r := ⟨_, rfl⟩
  have hdef := hr
  unfold encP at hdef
  rw [hr]
  show ite2 (faultP L != 0) _ _
  cases hf : faultP L == 0 with
  | false =>
    have : (faultP L != 0) = true := by rw [bne, hf]; rfl
    rw [this]
    rw [hf] at hdef
    subst hdef
    exact okOut.cold (v' := .tup [.vec8 true [], .int .i64 (faultP L)]) rfl (leV_tup (leRV_cons (leV_nil8 rfl) (leRV_cons (leV.refl _) leRV_nil))) rfl ⟨rfl, rfl⟩
  | true =>
    have : (faultP L != 0) = false := by rw [bne, hf]; rfl
    have h0 : faultP L = 0 := by simpa using hf
    obtain ⟨h8, hp⟩ := fault_le h0
    rw [hf, cond_true] at hdef
    rw [this, ite2_false]
    have hlen : ([UInt8.ofNat (Int.toNat (((L.length : Nat) : Int) % 256))] : List UInt8) = pencs L 0 := by
      unfold pencs
      have : (((L.length : Nat) : Int) % 256).toNat = L.length := by omega
      rw [this]; rfl
    refine ⟨⟨0, by rw [Inv.upTo_int]; omega, ?_⟩, fun i hi => ?_⟩
    · rw [hlen]
      repeat' apply And.intro
      all_goals first | rfl | trivial | exact ra
    rw [Inv.upTo_int] at hi
    have hpl := pencs_len hp hk
    rcases Nat.lt_or_ge i L.length with hlt | hge
    · rw [ltI_of (by omega), ite2_true, inB_of (by omega) (by omega), Int.toNat_natCast]
      have h1 := hpl (i + 1) (by omega)
      have hs := pencs_succ hlt
      have h3 : (L.getD i pn0).name.length ≤ 16 := by
        have h1 := (pinsOk_iff.1 hp i (by omega)).1
        unfold nm nameOk at h1
        rw [Bool.and_eq_true] at h1
        exact leB_iff.1 h1.2
      have hw2 : wr .i64 ((i : Int) + 1) = ((i + 1 : Nat) : Int) := by rw [wr_of (by omega) (by omega)]; rfl
      have e1 : List.take 1 (List.drop 0 [UInt8.ofNat (Int.toNat ((((L.getD i pn0).name.length : Nat) : Int) % 256))]) = [UInt8.ofNat (L.getD i pn0).name.length] := by
        have : ((((L.getD i pn0).name.length : Nat) : Int) % 256).toNat = (L.getD i pn0).name.length := by omega
        rw [this]; rfl
      rw [hs, List.length_append] at h1
      have hl1 : (penc1 (L.getD i pn0)).length = 1 + (L.getD i pn0).name.length + (L.getD i pn0).key.length + 1 := by
        unfold penc1; simp only [List.length_append]; rfl
      rw [e1, hw2]
      rw [hl1] at h1
      rw [leB_of (a := ((pencs L i).length + 1) * 1) (by omega), leB_of (a := ((pencs L i).length + 1 + (L.getD i pn0).name.length) * 1) (by omega), leB_of (a := ((pencs L i).length + 1 + (L.getD i pn0).name.length + (L.getD i pn0).key.length) * 1) (by omega)]
      have b1 : (((pencs L i).length + 1) == (pencs L i ++ [UInt8.ofNat (L.getD i pn0).name.length]).length) = true := by rw [List.length_append]; simp
      have b2 : (((pencs L i).length + 1 + (L.getD i pn0).name.length) == (pencs L i ++ [UInt8.ofNat (L.getD i pn0).name.length] ++ (L.getD i pn0).name).length) = true := by rw [List.length_append, List.length_append]; simp
      have b3 : (((pencs L i).length + 1 + (L.getD i pn0).name.length + (L.getD i pn0).key.length) == (pencs L i ++ [UInt8.ofNat (L.getD i pn0).name.length] ++ (L.getD i pn0).name ++ (L.getD i pn0).key).length) = true := by rw [List.length_append, List.length_append, List.length_append]; simp
      rw [b1, b2, b3, beq_self_eq_true, leB_of (a := ((pencs L i).length + 1 + (L.getD i pn0).name.length + (L.getD i pn0).key.length + 1) * 1) (by omega)]
      have fin : ∀ c : UInt8, c = (bif (L.getD i pn0).gone then 1 else 0) → (pencs L i ++ [UInt8.ofNat (L.getD i pn0).name.length] ++ (L.getD i pn0).name ++ (L.getD i pn0).key ++ List.take 1 (List.drop 0 [c])) = pencs L (i + 1) := by
        intro c hc
        subst hc
        rw [hs]
        show _ ++ [_] = _
        unfold penc1
        simp only [List.append_assoc]
      refine ite2_iff.2 ⟨fun hg => ?_, fun hg => ?_⟩
      · have e := fin 1 (by rw [hg]; rfl)
        refine ⟨i + 1, ⟨Inv.up_lt (by omega), by rw [Inv.upTo_int]; omega⟩, ?_⟩
        repeat' apply And.intro
        all_goals first | exact e | rfl | trivial | exact ra | (show _ = (pencs L (i + 1)).length; rw [hs, List.length_append, hl1]; omega)
      · have e := fin 0 (by rw [hg]; rfl)
        refine ⟨i + 1, ⟨Inv.up_lt (by omega), by rw [Inv.upTo_int]; omega⟩, ?_⟩
        repeat' apply And.intro
        all_goals first | exact e | rfl | trivial | exact ra | (show _ = (pencs L (i + 1)).length; rw [hs, List.length_append, hl1]; omega)
    · rw [ltI_no (by omega), ite2_false]
      obtain rfl : i = L.length := by omega
      subst hdef
      refine okOut.cold (v' := .tup [.vec8 false (pencs L L.length), .int .i64 0]) (u := [(0, .grow8 (pencs L L.length) [(0, (pencs L L.length).length)])]) ?_ (leV.refl _) rfl ⟨rfl, rfl⟩
      simp only [coldT, coldL, coldA_sl rfl]
      rfl
end Go.Proofs.Ytfpladpbnbpehaa

set_option linter.unusedSimpArgs false
set_option linter.unusedVariables false
namespace Go.Proofs.Ytfpladpbnbpehaa
open Go Go.V Go.Pin
set_option maxRecDepth 100000
theorem dec1_lt {r : List UInt8} {p : Pn} {r' : List UInt8} (h : dec1 r = .inl (p, r')) : r'.length ≤ r.length := by
  unfold dec1 at h
  split at h
  · cases h
  · split at h
    · cases h
    · simp only [Sum.inl.injEq, Prod.mk.injEq] at h
      rw [← h.2, List.length_drop]; omega
theorem decN_succ {n : Nat} {r : List UInt8} {out : List Pn} : decN (n + 1) r out = match dec1 r with
    | .inl (p, r') => decN n r' (out ++ [p])
    | .inr e => .inr e := rfl
theorem pDecode_c (full : Bool) (b : List UInt8) (hb : b.length ≤ maxLen) : HCall Try.E 23 [.vec8 full b] (pinsO (decS b)) := by
  have hb : b.length ≤ 9223372036854775807 := hb
  refine HCall.of_walkC (R := R1) (T := P6) (fun _ _ => pdecL b) 5 rfl rfl ?_
  rw [pDecode_eq, decS_eq]
  dsimp only
  obtain ⟨r, hr⟩ : ∃ r, decP b = r := ⟨_, rfl⟩
  have hdef := hr
  unfold decP at hdef
  rw [hr]
  rw [ite2_eq]
  refine ⟨fun h => ?_, fun h => ?_⟩
  · have h0 : b.length = 0 := by have : ((b.length : Nat) : Int) = 0 := by simpa using h
                                 omega
    rw [if_pos h0] at hdef
    exact pins_nil hdef.symm
  have h0 : b.length ≠ 0 := by have : ¬ ((b.length : Nat) : Int) = 0 := by simpa using h
                               omega
  rw [if_neg h0] at hdef
  have s1 : sliceOk (some 1) none b.length = true := by
    show (nnB 1 && leB 1 b.length) = true
    rw [nnB_iff.2 (by omega), leB_of (by omega)]; rfl
  have d1 : sliceL (some 1) none b = b.drop 1 := rfl
  rw [inB_of (by omega) (by omega), leB_of (by omega), s1, d1]
  have hk := (b.getD 0 0).toNat_lt
  generalize hK : (b.getD 0 0).toNat = k at *
  refine ite2_iff.2 ⟨fun h8 => ?_, fun h8 => ?_⟩
  · have := of_ltI h8
    rw [if_pos (by omega)] at hdef
    exact pins_nil hdef.symm
  have h8 := of_ltI_no h8
  rw [if_neg (by omega)] at hdef
  refine ⟨⟨⟨0, b.drop 1, []⟩, ⟨by rw [Inv.upTo_int]; show (0 : Int) ≤ _; omega, Nat.zero_le _, rfl, by show (b.drop 1).length ≤ _; rw [List.length_drop]; omega, rfl⟩, ?_⟩, fun x hx => ?_⟩
  · rw [Bool.or_true]
    repeat' apply And.intro
    all_goals first | rfl | trivial
  obtain ⟨i, rest, out⟩ := x
  obtain ⟨_, hi, ho, hrl, hd⟩ := hx
  dsimp only at hi ho hrl hd ⊢
  rw [hd] at hdef
  rcases Nat.lt_or_ge i k with hlt | hge
  · rw [ltI_of (by omega), ite2_true]
    obtain ⟨q, hq⟩ : ∃ q, k - i = q + 1 := ⟨k - i - 1, by omega⟩
    rw [hq, decN_succ] at hdef hd
    obtain ⟨D, hD⟩ : ∃ D, dec1 rest = D := ⟨_, rfl⟩
    have hD1 := hD
    unfold dec1 at hD1
    rw [hD] at hdef hd
    have hm := (rest.getD 0 0).toNat_lt
    have bad : ∀ e, D = .inr e → okOut (pinsO r) (.tup [.vec8 true [], .int .i64 e]) [] := fun e he => by
      subst he
      exact pins_nil hdef.symm
    refine ite2_iff.2 ⟨fun hr0 => ?_, fun hr0 => ?_⟩
    · have hr0 : rest.length = 0 := by have : ((rest.length : Nat) : Int) = 0 := by simpa using hr0
                                       omega
      rw [if_pos (by omega)] at hD1
      exact bad 4 hD1.symm
    have hr0 : rest.length ≠ 0 := by have : ¬ ((rest.length : Nat) : Int) = 0 := by simpa using hr0
                                     omega
    rw [inB_of (by omega) (by omega), leB_of (by omega)]
    generalize (rest.getD 0 0).toNat = m at *
    have w1 : wr .i64 (34 + ((m : Nat) : Int)) = ((34 + m : Nat) : Int) := by rw [wr_of (by omega) (by omega)]; rfl
    have w2 : wr .i64 (1 + ((m : Nat) : Int)) = ((1 + m : Nat) : Int) := by rw [wr_of (by omega) (by omega)]; rfl
    have w3 : wr .i64 (((1 + m : Nat) : Int) + 32) = ((1 + m + 32 : Nat) : Int) := by rw [wr_of (by omega) (by omega)]; rfl
    have w4 : wr .i64 (((1 + m : Nat) : Int) + 33) = ((1 + m + 33 : Nat) : Int) := by rw [wr_of (by omega) (by omega)]; rfl
    have w5 : wr .i64 (((i : Nat) : Int) + 1) = ((i + 1 : Nat) : Int) := by rw [wr_of (by omega) (by omega)]; rfl
    have o1 : ofs 0 ((1 + m + 32 : Nat) : Int) = 1 + m + 32 := by rw [ofs_eq, Int.toNat_natCast]; omega
    rw [w1, w2, w3, w4, w5, o1]
    show ite2 (ltI ((rest.length : Nat) : Int) ((34 + m : Nat) : Int)) _ _
    refine ite2_iff.2 ⟨fun hs => ?_, fun hs => ?_⟩
    · have := of_ltI hs
      rw [if_pos (by omega)] at hD1
      exact bad 4 hD1.symm
    have hs := of_ltI_no hs
    rw [if_neg (by omega)] at hD1
    have c1 : sliceOk (some 1) (some ((1 + m : Nat) : Int)) rest.length = true := by
      show ((nnB _ && leB (Int.toNat _) (Int.toNat _)) && (nnB _ && leB (Int.toNat _) _)) = true
      rw [nnB_iff.2 (by omega), nnB_iff.2 (by omega), Int.toNat_natCast, leB_of (by show 1 ≤ _; omega), leB_of (by omega)]; rfl
    have c2 : sliceOk (some ((1 + m : Nat) : Int)) none rest.length = true := by
      show (nnB _ && leB (Int.toNat _) _) = true
      rw [nnB_iff.2 (by omega), Int.toNat_natCast, leB_of (by omega)]; rfl
    have c3 : sliceOk (some ((1 + m + 33 : Nat) : Int)) none rest.length = true := by
      show (nnB _ && leB (Int.toNat _) _) = true
      rw [nnB_iff.2 (by omega), Int.toNat_natCast, leB_of (by omega)]; rfl
    have l1 : sliceL (some 1) (some ((1 + m : Nat) : Int)) rest = (rest.take (1 + m)).drop 1 := by show (rest.take (Int.toNat _)).drop (Int.toNat 1) = _; rw [Int.toNat_natCast]; rfl
    have l2 : sliceL (some ((1 + m : Nat) : Int)) none rest = rest.drop (1 + m) := by show rest.drop (Int.toNat _) = _; rw [Int.toNat_natCast]
    have l3 : sliceL (some ((1 + m + 33 : Nat) : Int)) none rest = rest.drop (1 + m + 33) := by show rest.drop (Int.toNat _) = _; rw [Int.toNat_natCast]
    rw [c1, c2, c3, l1, l2, l3, inB_of (n := ((1 + m + 32 : Nat) : Int)) (by omega) (by omega)]
    show ite2 (ltI 1 (((rest.getD (1 + m + 32) 0).toNat : Nat) : Int)) _ _
    refine ite2_iff.2 ⟨fun hg => ?_, fun hg => ?_⟩
    · have := of_ltI hg
      rw [if_pos (by omega)] at hD1
      exact bad 3 hD1.symm
    have hg := of_ltI_no hg
    rw [if_neg (by omega)] at hD1
    subst hD1
    dsimp only at hd hdef
    rw [beq_self_eq_true, leB_of (by omega)]
    have hgone : ((((rest.getD (1 + m + 32) 0).toNat : Nat) : Int) == 1) = (rest.getD (1 + m + 32) 0 == 1) := by
      cases h : rest.getD (1 + m + 32) 0 == 1 with
      | true =>
        have : rest.getD (1 + m + 32) 0 = 1 := by simpa using h
        rw [this]; rfl
      | false =>
        have h1 : rest.getD (1 + m + 32) 0 ≠ 1 := by simpa using h
        refine beq_false_of_ne fun e => h1 ?_
        apply UInt8.toNat_inj.1
        show _ = 1
        omega
    have hkey : List.take 32 (rest.drop (1 + m)) ++ List.drop (min (rest.drop (1 + m)).length 32) [0, 0, 0, 0, 0, 0, 0, 0, 0, 0, 0, 0, 0, 0, 0, 0, 0, 0, 0, 0, 0, 0, 0, 0, 0, 0, 0, 0, 0, 0, 0, 0] = List.take 32 (rest.drop (1 + m)) := by
      rw [List.length_drop, Nat.min_eq_right (by omega)]
      show _ ++ [] = _
      rw [List.append_nil]
    rw [hgone, hkey]
    refine ⟨⟨i + 1, rest.drop (1 + m + 33), out ++ [⟨(rest.take (1 + m)).drop 1, (rest.drop (1 + m)).take 32, rest.getD (1 + m + 32) 0 == 1⟩]⟩, ⟨Inv.up_lt (by omega), by rw [Inv.upTo_int]; show ((i + 1 : Nat) : Int) ≤ _; omega, by show i + 1 ≤ k; omega, by rw [List.length_append, ho]; rfl, by show (rest.drop _).length ≤ _; rw [List.length_drop]; omega, ?_⟩, ?_⟩
    · rw [hd]
      show _ = decN (k - (i + 1)) _ _
      rw [show k - (i + 1) = q by omega]
    · repeat' apply And.intro
      all_goals first
        | rfl
        | trivial
        | (show out.length + 1 = (out ++ [_]).length; rw [List.length_append]; rfl)
        | (intro x hx
           refine rows_app (i := out.length) (g := pcs (out ++ [_])) (fun y hy => ?_) ?_ x (by rw [List.length_append] at hx; exact hx)
           · exact leR.of_eq rfl (pcs_app1 hy).symm
           · have this : pcs (out ++ [⟨(rest.take (1 + m)).drop 1, (rest.drop (1 + m)).take 32, rest.getD (1 + m + 32) 0 == 1⟩]) out.length = _ := pcs_app2 (x := 0)
             rw [this]
             exact leR.of_eq rfl rfl)
  · rw [ltI_no (by omega), ite2_false]
    have hk0 : k - i = 0 := by omega
    rw [hk0] at hdef
    dsimp only [decN] at hdef
    refine ite2_iff.2 ⟨fun h => ?_, fun h => ?_⟩
    · have := of_ltI h
      rw [if_pos (by omega)] at hdef
      exact pins_nil hdef.symm
    have h := of_ltI_no h
    rw [if_neg (by omega)] at hdef
    rw [pins_of, faultPS_eq, isPns_pcs, leB_of (by omega)]
    show ite2 (faultP out != 0) _ _
    refine ite2_iff.2 ⟨fun h => ?_, fun h => ?_⟩
    · rw [if_pos (by simpa using h)] at hdef
      exact pins_nil hdef.symm
    · rw [if_neg (by simpa using h)] at hdef
      exact pins_rows hdef.symm rfl fun _ _ => rfl
end Go.Proofs.Ytfpladpbnbpehaa

set_option linter.unusedSimpArgs false
set_option linter.unusedVariables false
namespace Go.Proofs.Ytfpladpbnbpehaa
open Go Go.V Go.Pin
noncomputable def P7 : Ctr Try.E := (P6.add 24 (fun
    | [.vecr _ 34 n f] => some (leB n 1000000000 && (isPns n f && keys32S (pnsOf n f)), pencO (pnsOf n f))
    | _ => none) (by
      intro args pre out h hp
      split at h
      · rename_i b n f
        simp only [Option.some.injEq, Prod.mk.injEq] at h
        obtain ⟨rfl, rfl⟩ := h
        obtain ⟨h1, h2⟩ := (Bool.and_eq_true _ _).mp hp
        obtain ⟨h2, h3⟩ := (Bool.and_eq_true _ _).mp h2
        obtain ⟨L, rfl, hf⟩ := isPns_iff.1 h2
        rw [pnsOf_eq L rfl hf, keys32S_eq] at h3
        rw [pnsOf_eq L rfl hf]
        refine HCall.args (pEncode_c false L (leB_iff.1 h1) h3) rfl fun ρ I w vs r => ?_
        obtain ⟨x, xs, rfl, k1, k2⟩ := RV_cons.1 r
        exact RV_cons.2 ⟨x, xs, rfl, leV_vecr (by simp) (fun i hi => leR.of_eq (pcs_ok L i).ok (hf i hi)) _ _ _ _ k1, k2⟩
      · simp at h)).add 23 (fun
    | [.vec8 _ b] => some (leB b.length 9223372036854775807, pinsO (decS b))
    | _ => none) (by
      intro args pre out h hp
      split at h
      · rename_i full b
        simp only [Option.some.injEq, Prod.mk.injEq] at h
        obtain ⟨rfl, rfl⟩ := h
        exact pDecode_c full b (leB_iff.1 hp)
      · simp at h)
noncomputable def pbackL : LPlan := .mv [0, 1, 2, 7, 8, 10, 11, 12, 45] [45] Nat Inv.upTo Inv.up (fun _ => []) (fun _ i => [(6, .bool false), (46, .int .i64 ((i : Nat) : Int))]) (fun _ _ => []) (fun _ => [])
end Go.Proofs.Ytfpladpbnbpehaa

set_option linter.unusedSimpArgs false
set_option linter.unusedVariables false
namespace Go.Proofs.Ytfpladpbnbpehaa
open Go Go.V Go.Pin
set_option maxHeartbeats 0
set_option maxRecDepth 100000

theorem pfixed_eq (b : List UInt8) (K : AV → Heap → Prop) : walk Try.E R1 P7.C (fun _ _ => .unroll 3) 6 6 [.vec8 false b] K = (
 let x0 : List Pn := (Prod.fst (Pin.decS b))
 let x1 : Nat := (List.length x0)
 let x2 : List Pn := (Pin.pnsOf x1 (Pin.pcs x0))
 cnd (leB (List.length b) 9223372036854775807)
 (ite2 ((Prod.snd (Pin.decS b)) != 0)
 -- THEN
 (K (AV.bool (cond Bool.true (((x1 : Nat) : Int) == 0) Bool.false)) [])
 -- ELSE
 (cnd ((leB x1 1000000000) && ((Pin.isPns x1 (Pin.pcs x0)) && (Pin.keys32S x2)))
 (ite2 (cond Bool.true ((Prod.snd (Pin.encS x2)) == 0) Bool.false)
 -- THEN
 (K (AV.bool (cond Bool.true (b == (Prod.fst (Pin.encS x2))) Bool.false)) [])
 -- ELSE
 (K (AV.bool Bool.false) []))))) := by kernel_rfl

theorem pback_eq (l : List Raw3) (n k : Int) (K : AV → Heap → Prop) : walk Try.E R1 P7.C (fun _ _ => pbackL) 6 7 [.vecr false 4 l.length (rawsF l), .int .i64 n, .int .i64 k] K = (
 let x0 : Nat := (List.length l)
 let x1 : List Pn := (Pin.pinnedN (Frm.rawsOf x0 (rawsF l)) (Min.min x0 20))
 let x2 : Nat := (List.length x1)
 let x3 : Bool := (leB x2 1000000000)
 let x4 : Bool := (Pin.isPns x2 (Pin.pcs x1))
 let x5 : List Pn := (Pin.pnsOf x2 (Pin.pcs x1))
 let x6 : List UInt8 := (Prod.fst (Pin.encS x5))
 let x7 : List Pn := (Prod.fst (Pin.decS x6))
 let x8 : Nat := (List.length x7)
 let x9 : Int := ((x2 : Nat) : Int)
 let x10 : Int := (Prod.snd (Pin.encS x5))
 let x11 : Int := (Prod.snd (Pin.decS x6))
 let x12 : List UInt8 := (Pin.namedS n)
 let x13 : List Pn := (Prod.fst (Pin.forgetS x5 x12))
 let x14 : Nat := (List.length x13)
 let x15 : List UInt8 := (Pin.namedS k)
 cnd (Frm.isRaws x0 (rawsF l))
 (cnd (x3 && (x4 && (Pin.keys32S x5)))
 (cnd (leB (List.length x6) 9223372036854775807)
 (ite2 (((x8 : Nat) : Int) != x9)
 -- THEN
 (K (AV.bool Bool.false) [])
 -- ELSE
 ((∃ w0 : Nat, (Inv.upTo [AV.int IntKind.i64 x9] w0) ∧ ((x0 = x0) ∧ ((∀ w1 : Nat, (w1 < x0 → leR [AV.int IntKind.i64 (Raw3.kind (List.getD l w1 raw0)), AV.int IntKind.i64 (Raw3.a (List.getD l w1 raw0)), AV.int IntKind.i64 (Raw3.b (List.getD l w1 raw0)), AV.str (Raw3.text (List.getD l w1 raw0))] [AV.int IntKind.i64 (Raw3.kind (List.getD l w1 raw0)), AV.int IntKind.i64 (Raw3.a (List.getD l w1 raw0)), AV.int IntKind.i64 (Raw3.b (List.getD l w1 raw0)), AV.str (Raw3.text (List.getD l w1 raw0))])) ∧ ((AV.int IntKind.i64 n = AV.int IntKind.i64 n) ∧ ((AV.int IntKind.i64 k = AV.int IntKind.i64 k) ∧ ((AV.bool Bool.false = AV.bool Bool.false) ∧ ((x2 = x2) ∧ ((∀ w2 : Nat, (w2 < x2 → leR [AV.str (Pin.Pn.name (List.getD x1 w2 Pin.pn0)), AV.b8 32 (Pin.Pn.key (List.getD x1 w2 Pin.pn0)), AV.bool (Pin.Pn.gone (List.getD x1 w2 Pin.pn0))] [AV.str (Pin.Pn.name (List.getD x1 w2 Pin.pn0)), AV.b8 32 (Pin.Pn.key (List.getD x1 w2 Pin.pn0)), AV.bool (Pin.Pn.gone (List.getD x1 w2 Pin.pn0))])) ∧ ((AV.bool Bool.true = AV.bool Bool.true) ∧ ((AV.int IntKind.i64 x10 = AV.int IntKind.i64 x10) ∧ ((x8 = x8) ∧ ((∀ w3 : Nat, (w3 < x8 → leR [AV.str (Pin.Pn.name (List.getD x7 w3 Pin.pn0)), AV.b8 32 (Pin.Pn.key (List.getD x7 w3 Pin.pn0)), AV.bool (Pin.Pn.gone (List.getD x7 w3 Pin.pn0))] [AV.str (Pin.Pn.name (List.getD x7 w3 Pin.pn0)), AV.b8 32 (Pin.Pn.key (List.getD x7 w3 Pin.pn0)), AV.bool (Pin.Pn.gone (List.getD x7 w3 Pin.pn0))])) ∧ ((AV.int IntKind.i64 x11 = AV.int IntKind.i64 x11) ∧ ((AV.int IntKind.i64 x9 = AV.int IntKind.i64 x9) ∧ ((AV.int IntKind.i64 0 = AV.int IntKind.i64 ((w0 : Nat) : Int)) ∧ True))))))))))))))) ∧ (∀ w4 : Nat, (Inv.upTo [AV.int IntKind.i64 x9] w4 → ite2 (ltI ((w4 : Nat) : Int) x9)
 -- THEN
 (cnd ((inB ((w4 : Nat) : Int) x2) && Bool.true)
 (cnd ((inB ((w4 : Nat) : Int) x8) && Bool.true)
 (ite2 (Bool.not (((Pin.Pn.name (List.getD x1 (Int.toNat ((w4 : Nat) : Int)) Pin.pn0)) == (Pin.Pn.name (List.getD x7 (Int.toNat ((w4 : Nat) : Int)) Pin.pn0))) && (((Pin.Pn.key (List.getD x1 (Int.toNat ((w4 : Nat) : Int)) Pin.pn0)) == (Pin.Pn.key (List.getD x7 (Int.toNat ((w4 : Nat) : Int)) Pin.pn0))) && (((Pin.Pn.gone (List.getD x1 (Int.toNat ((w4 : Nat) : Int)) Pin.pn0)) == (Pin.Pn.gone (List.getD x7 (Int.toNat ((w4 : Nat) : Int)) Pin.pn0))) && Bool.true))))
 -- THEN
 (K (AV.bool Bool.false) [])
 -- ELSE
 ((∃ w5 : Nat, (((Inv.up w5) < (Inv.up w4)) ∧ (Inv.upTo [AV.int IntKind.i64 x9] w5)) ∧ ((x0 = x0) ∧ ((∀ w6 : Nat, (w6 < x0 → leR [AV.int IntKind.i64 (Raw3.kind (List.getD l w6 raw0)), AV.int IntKind.i64 (Raw3.a (List.getD l w6 raw0)), AV.int IntKind.i64 (Raw3.b (List.getD l w6 raw0)), AV.str (Raw3.text (List.getD l w6 raw0))] [AV.int IntKind.i64 (Raw3.kind (List.getD l w6 raw0)), AV.int IntKind.i64 (Raw3.a (List.getD l w6 raw0)), AV.int IntKind.i64 (Raw3.b (List.getD l w6 raw0)), AV.str (Raw3.text (List.getD l w6 raw0))])) ∧ ((AV.int IntKind.i64 n = AV.int IntKind.i64 n) ∧ ((AV.int IntKind.i64 k = AV.int IntKind.i64 k) ∧ ((AV.bool Bool.false = AV.bool Bool.false) ∧ ((x2 = x2) ∧ ((∀ w7 : Nat, (w7 < x2 → leR [AV.str (Pin.Pn.name (List.getD x1 w7 Pin.pn0)), AV.b8 32 (Pin.Pn.key (List.getD x1 w7 Pin.pn0)), AV.bool (Pin.Pn.gone (List.getD x1 w7 Pin.pn0))] [AV.str (Pin.Pn.name (List.getD x1 w7 Pin.pn0)), AV.b8 32 (Pin.Pn.key (List.getD x1 w7 Pin.pn0)), AV.bool (Pin.Pn.gone (List.getD x1 w7 Pin.pn0))])) ∧ ((AV.bool Bool.true = AV.bool Bool.true) ∧ ((AV.int IntKind.i64 x10 = AV.int IntKind.i64 x10) ∧ ((x8 = x8) ∧ ((∀ w8 : Nat, (w8 < x8 → leR [AV.str (Pin.Pn.name (List.getD x7 w8 Pin.pn0)), AV.b8 32 (Pin.Pn.key (List.getD x7 w8 Pin.pn0)), AV.bool (Pin.Pn.gone (List.getD x7 w8 Pin.pn0))] [AV.str (Pin.Pn.name (List.getD x7 w8 Pin.pn0)), AV.b8 32 (Pin.Pn.key (List.getD x7 w8 Pin.pn0)), AV.bool (Pin.Pn.gone (List.getD x7 w8 Pin.pn0))])) ∧ ((AV.int IntKind.i64 x11 = AV.int IntKind.i64 x11) ∧ ((AV.int IntKind.i64 x9 = AV.int IntKind.i64 x9) ∧ ((AV.int IntKind.i64 (wr IntKind.i64 (((w4 : Nat) : Int) + 1)) = AV.int IntKind.i64 ((w5 : Nat) : Int)) ∧ True)))))))))))))))))))
 -- ELSE
 (cnd (x3 && x4)
 (cnd (x3 && x4)
 (cnd ((leB x14 1000000000) && (Pin.isPns x14 (Pin.pcs x13)))
 (cnd (x3 && x4)
 (ite2 (cond Bool.true (x10 == 0) Bool.false)
 -- THEN
 (ite2 (cond Bool.true (x11 == 0) Bool.false)
 -- THEN
 (ite2 ((Prod.snd (Pin.findS x5 x12)) != 0)
 -- THEN
 (K (AV.bool Bool.true) [])
 -- ELSE
 (ite2 (cond Bool.false Bool.true (x12 == x15))
 -- THEN
 (K (AV.bool Bool.true) [])
 -- ELSE
 (ite2 ((Prod.snd (Pin.findS x5 x15)) == (Prod.snd (Pin.findS (Pin.pnsOf x14 (Pin.pcs x13)) x15)))
 -- THEN
 (K (AV.bool (cond Bool.true (cond Bool.false Bool.true (cond Bool.true (((Pin.Pn.name (Prod.fst (Pin.findS x5 x15))) == (Pin.Pn.name (Prod.fst (Pin.findS (Pin.pnsOf x14 (Pin.pcs x13)) x15)))) && (((Pin.Pn.key (Prod.fst (Pin.findS x5 x15))) == (Pin.Pn.key (Prod.fst (Pin.findS (Pin.pnsOf x14 (Pin.pcs x13)) x15)))) && (((Pin.Pn.gone (Prod.fst (Pin.findS x5 x15))) == (Pin.Pn.gone (Prod.fst (Pin.findS (Pin.pnsOf x14 (Pin.pcs x13)) x15)))) && Bool.true))) Bool.false)) Bool.false)) [])
 -- ELSE
 (K (AV.bool Bool.false) []))))
 -- ELSE
 (K (AV.bool Bool.false) []))
 -- ELSE
 (K (AV.bool Bool.false) []))))))))))))) := by kernel_rfl

end Go.Proofs.Ytfpladpbnbpehaa

set_option linter.unusedSimpArgs false
set_option linter.unusedVariables false
namespace Go.Proofs.Ytfpladpbnbpehaa
open Go Go.V Go.Pin
set_option maxRecDepth 100000
theorem cndI {b : Bool} {p : Prop} (h : b = true) (k : p) : cnd b p := by rw [cnd_eq]; exact ⟨h, k⟩
theorem pinsFixed_c (b : List UInt8) (hb : b.length ≤ maxLen) : HCall Try.E 6 [.vec8 false b] (.ret (.bool true) []) := by
  have hb' : b.length ≤ 9223372036854775807 := hb
  refine HCall.of_walk (R := R1) (T := P7) (fun _ _ => .unroll 3) 6 rfl rfl ?_
  rw [pfixed_eq]
  dsimp only
  rw [leB_of hb', decS_eq]
  obtain ⟨r, hr⟩ : ∃ r, decP b = r := ⟨_, rfl⟩
  rw [hr]
  refine cndI rfl (ite2_iff.2 ⟨fun h => ?_, fun h => ?_⟩)
  · have he : r.2 ≠ 0 := by simpa using h
    have := dec_err (b := b) (by rw [hr]; exact he)
    rw [hr] at this
    rw [this]
    exact (has_refl : (Out.ret (AV.bool true) []).has (AV.bool true) [])
  · have he : r.2 = 0 := by simpa using h
    obtain ⟨L, e⟩ := r
    dsimp only at he ⊢
    subst he
    obtain ⟨h0, hk, henc⟩ := dec_enc hr
    have h8 := (faultP_iff.1 h0).1
    rw [pins_of, isPns_pcs, keys32S_eq, hk, leB_of (show L.length ≤ 1000000000 by omega), encS_eq, henc]
    refine cndI rfl (ite2_iff.2 ⟨fun _ => ?_, fun h => absurd h (by simp)⟩)
    show (Out.ret (AV.bool true) []).has (AV.bool (b == b)) []
    rw [beq_self_eq_true]
    exact has_refl
theorem pinsBack_c (l : List Raw3) (_hl : l.length ≤ maxLen ∧ ∀ r ∈ l, r.ok) (n : Int) (_hn : -9223372036854775808 ≤ n ∧ n ≤ 9223372036854775807) (k : Int) (_hk : -9223372036854775808 ≤ k ∧ k ≤ 9223372036854775807) :
    HCall Try.E 7 [.vecr false 4 l.length (rawsF l), .int .i64 n, .int .i64 k] (.ret (.bool true) []) := by
  refine HCall.of_walk (R := R1) (T := P7) (fun _ _ => pbackL) 6 rfl rfl ?_
  rw [pback_eq]
  dsimp only
  rw [Frm.rawsOf_eq, Frm.isRaws_iff.2 ⟨l, rfl, rfl⟩]
  have hl := _hl.1
  have raws := rawsOk l l.length
  have hP := pinnedN_ok (l := l) (min l.length 20) (by omega)
  have hk32 := keys32_pinned l (min l.length 20)
  generalize pinnedN l (min l.length 20) = P at *
  have h8 := (faultP_iff.1 hP).1
  have hle : leB P.length 1000000000 = true := leB_of (by omega)
  have hs := pencs_small hP hk32
  have hE : encP P = (pencs P P.length, 0) := by unfold encP; rw [hP]; rfl
  have hD := enc_dec hP hk32
  have kk : keys32S P = true := by rw [keys32S_eq]; exact hk32
  have hles : leB (pencs P P.length).length 9223372036854775807 = true := leB_of (by omega)
  have h00 : ((0 : Int) == 0) = true := rfl
  rw [pins_of, encS_eq, hE]
  dsimp only
  rw [decS_eq, hD]
  dsimp only
  generalize namedS n = s at *
  generalize namedS k = far at *
  have hself : ∀ L : List Pn, ∀ i, leR [AV.str (Pn.name (L.getD i pn0)), AV.b8 32 (Pn.key (L.getD i pn0)), AV.bool (Pn.gone (L.getD i pn0))] [AV.str (Pn.name (L.getD i pn0)), AV.b8 32 (Pn.key (L.getD i pn0)), AV.bool (Pn.gone (L.getD i pn0))] := fun L i => pcs_ok L i
  refine cndI rfl ?_
  rw [hle, isPns_pcs, kk, hles]
  refine cndI rfl (cndI rfl ?_)
  rw [show ((((P.length : Nat) : Int)) != ((P.length : Nat) : Int)) = false by simp, ite2_false]
  refine ⟨⟨0, by rw [Inv.upTo_int]; omega, ?_⟩, fun w hw => ?_⟩
  · repeat' apply And.intro
    all_goals first | rfl | trivial | exact raws | exact fun x _ => hself P x
  rw [Inv.upTo_int] at hw
  rcases Nat.lt_or_ge w P.length with hlt | hge
  · rw [ltI_of (by omega), ite2_true, inB_of (by omega) (by omega)]
    refine cndI rfl (cndI rfl ?_)
    simp only [Int.toNat_natCast, beq_self_eq_true, Bool.and_self, Bool.not_true, ite2_false]
    have hw2 : wr .i64 ((w : Int) + 1) = ((w + 1 : Nat) : Int) := by rw [wr_of (by omega) (by omega)]; rfl
    rw [hw2]
    refine ⟨w + 1, ⟨Inv.up_lt (by omega), by rw [Inv.upTo_int]; omega⟩, ?_⟩
    repeat' apply And.intro
    all_goals first | rfl | trivial | exact raws | exact fun x _ => hself P x
  rw [ltI_no (by omega), ite2_false]
  rw [findS_eq, forgetS_eq, h00, isPns_pcs, pins_of]
  refine cndI rfl (cndI rfl ?_)
  cases hh : hasP P s with
  | false =>
    have e1 : forgetP P s = ([], 5) := by unfold forgetP changeP; rw [hP, hh]; rfl
    have e2 : findP P s = (pnZ, 5) := by unfold findP; rw [hP, hh]; rfl
    rw [e1, e2]
    exact cndI rfl (cndI rfl has_refl)
  | true =>
    have e1 : forgetP P s = (chgP P (posP P s) [], 0) := by unfold forgetP changeP; rw [hP, hh]; rfl
    have e2 : (findP P s).2 = 0 := by unfold findP; rw [hP, hh]; rfl
    have hM := (faultP_iff.1 (chg0_ok hP (posP P s))).1
    refine cndI (by rw [e1, leB_of (show (chgP P (posP P s) []).length ≤ 1000000000 by omega)]; rfl) (cndI rfl ?_)
    rw [e2]
    show ite2 (bif false then true else (s == far)) _ _
    rw [cond_false]
    refine ite2_iff.2 ⟨fun _ => has_refl, fun h => ?_⟩
    have hne : s ≠ far := by simpa using h
    rw [find_forget hP hh hne]
    simp only [beq_self_eq_true, Bool.and_self, cond_true, cond_false, ite2_true]
    exact has_refl
end Go.Proofs.Ytfpladpbnbpehaa
