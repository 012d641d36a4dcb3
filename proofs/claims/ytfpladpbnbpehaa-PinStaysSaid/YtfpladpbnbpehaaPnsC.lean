import Derived.Test.YtfpladpbnbpehaaGPnsB
import Derived.Test.YtfpladpbnbpehaaPinL
set_option linter.unusedSimpArgs false
set_option linter.unusedVariables false
namespace Go.Proofs.Ytfpladpbnbpehaa
open Go Go.V Go.Pin
set_option maxRecDepth 100000
theorem pcheck_c (full : Bool) (L : List Pn) (hL : L.length ≤ 1000000000) : HCall Try.E 22 [.vecr full 34 L.length (pcs L)] (.ret (.int .i64 (faultPS L)) []) := by
  refine HCall.of_walk (R := R1) (T := P1) (fun _ _ => checkL L) 5 rfl rfl ?_
  rw [pcheck_eq, faultPS_eq]
  dsimp only
  have hfa : (full || !full) = true := by cases full <;> rfl
  rw [hfa]
  have ra : ∀ x, x < L.length → leR (pcs L x) (pcs L x) := fun x _ => pcs_ok L x
  refine ite2_iff.2 ⟨fun h => ⟨?_, rfl⟩, fun h => ?_⟩
  · have := of_ltI h
    unfold faultP; rw [ltB_of (by omega)]; rfl
  have h8 := of_ltI_no h
  have hf : faultP L = bif pinsOk L then 0 else 9 := by unfold faultP; rw [ltB_no (by omega)]; rfl
  refine ⟨⟨0, ⟨by rw [Inv.upTo_int]; omega, fun j hj => by omega⟩, ?_⟩, fun i hi => ?_⟩
  · repeat' apply And.intro
    all_goals first | rfl | trivial | exact ra
  obtain ⟨hi, hok⟩ := hi
  rw [Inv.upTo_int] at hi
  rcases Nat.lt_or_ge i L.length with hlt | hge
  · rw [ltI_of (by omega), ite2_true, inB_of (by omega) (by omega), Int.toNat_natCast]
    have bad : pinOk L i = false → (Out.ret (.int .i64 (faultP L)) []).has (.int .i64 9) [] := fun hb => by
      have : pinsOk L = false := by
        cases h : pinsOk L with
        | false => rfl
        | true =>
          have := (List.all_eq_true.1 (show (List.range L.length).all (pinOk L) = true from h)) i (List.mem_range.2 hlt)
          rw [hb] at this; cases this
      rw [hf, this]; exact ⟨rfl, rfl⟩
    have good : pinOk L i = true → Inv.up (i + 1) < Inv.up i ∧ Inv.upTo [AV.int .i64 ((L.length : Nat) : Int)] (i + 1) ∧ ∀ j, j < i + 1 → pinOk L j = true := fun hb =>
      ⟨Inv.up_lt (by omega), by rw [Inv.upTo_int]; omega, fun j hj => by
        rcases Nat.lt_or_ge j i with h | h
        · exact hok j h
        · obtain rfl : j = i := by omega
          exact hb⟩
    have hw2 : wr .i64 ((i : Int) + 1) = ((i + 1 : Nat) : Int) := by rw [wr_of (by omega) (by omega)]; rfl
    rw [hw2]
    cases hn : nameOk (L.getD i pn0).name with
    | false =>
      refine bad ?_
      unfold pinOk; rw [hn]; rfl
    | true =>
      show ite2 (ltI 0 ((i : Nat) : Int)) _ _
      cases h0 : ltI 0 ((i : Nat) : Int) with
      | false =>
        have h0 := of_ltI_no h0
        refine ⟨i + 1, good ?_, ?_⟩
        · unfold pinOk; rw [hn, ltB_no (by omega)]; rfl
        · repeat' apply And.intro
          all_goals first | rfl | trivial | exact ra
      | true =>
        have h0 := of_ltI h0
        have hw3 : wr .i64 (subI ((i : Nat) : Int) 1) = ((i - 1 : Nat) : Int) := by rw [subI_eq, wr_of (by omega) (by omega)]; omega
        rw [hw3, ite2_true, inB_of (by omega) (by omega), Int.toNat_natCast]
        show ite2 (!Op.bytesLess (L.getD (i - 1) pn0).name (L.getD i pn0).name) _ _
        cases hb : Op.bytesLess (L.getD (i - 1) pn0).name (L.getD i pn0).name with
        | false =>
          refine bad ?_
          unfold pinOk; rw [hn, ltB_of (by omega), hb]; rfl
        | true =>
          refine ⟨i + 1, good ?_, ?_⟩
          · unfold pinOk; rw [hn, ltB_of (by omega), hb]; rfl
          · repeat' apply And.intro
            all_goals first | rfl | trivial | exact ra
  · rw [ltI_no (by omega), ite2_false]
    have : pinsOk L = true := List.all_eq_true.2 fun j hj => hok j (by have := List.mem_range.1 hj; omega)
    rw [hf, this]
    exact ⟨rfl, rfl⟩

noncomputable def posS : List Pn → List UInt8 → Nat := (sealed posP).val
theorem posS_eq : posS = posP := by rw [posS, (sealed posP).property]
noncomputable def hasS : List Pn → List UInt8 → Bool := (sealed hasP).val
theorem hasS_eq : hasS = hasP := by rw [hasS, (sealed hasP).property]
theorem pfind_c (full : Bool) (L : List Pn) (s : List UInt8) (hL : L.length ≤ 1000000000) (hp : pinsOk L = true) :
    HCall Try.E 29 [.vecr full 34 L.length (pcs L), .str s] (.ret (.tup [.int .i64 ((posS L s : Nat) : Int), .bool (hasS L s)]) []) := by
  refine HCall.of_walk (R := R1) (T := P1) (fun f _ => bif f == 35 then searchL L s else .unroll 2) 5 rfl rfl ?_
  rw [pfind_eq, posS_eq, hasS_eq]
  dsimp only
  have hfa : (full || !full) = true := by cases full <;> rfl
  rw [hfa]
  have ra : ∀ x, x < L.length → leR (pcs L x) (pcs L x) := fun x _ => pcs_ok L x
  have hpl := posP_le L s
  refine ⟨⟨(0, L.length), ⟨Nat.zero_le _, hpl, Nat.le_refl _⟩, ?_⟩, fun w hw => ?_⟩
  · repeat' apply And.intro
    all_goals first | rfl | trivial | exact ra
  obtain ⟨i, j⟩ := w
  obtain ⟨h1, h2, h3⟩ := hw
  dsimp only at h1 h2 h3 ⊢
  have q1 : Int.toNat (((UInt64.toNat (UInt64.ofNat (Int.toNat 1))) : Nat) : Int) = 1 := rfl
  rw [q1, mid_val (by omega)]
  rcases Nat.lt_or_ge i j with hlt | hge
  · rw [ltI_of (by omega), ite2_true, inB_of (by omega) (by omega), Int.toNat_natCast]
    have hspec := posP_spec hp (s := s) (j := (i + j) / 2) (by omega)
    rw [show (L.getD ((i + j) / 2) pn0).name = nm L ((i + j) / 2) from rfl, hspec, Bool.not_not]
    cases hb : ltB ((i + j) / 2) (posP L s) with
    | true =>
      have hb := ltB_iff.1 hb
      have hw : wr .i64 ((((i + j) / 2 : Nat) : Int) + 1) = (((i + j) / 2 + 1 : Nat) : Int) := by rw [wr_of (by omega) (by omega)]; rfl
      rw [hw]
      refine ⟨((i + j) / 2 + 1, j), ⟨by show j - _ < j - i; omega, by show (i + j) / 2 + 1 ≤ _; omega, h2, h3⟩, ?_⟩
      repeat' apply And.intro
      all_goals first | rfl | trivial | exact ra
    | false =>
      have hb := of_ltB_no hb
      refine ⟨(i, (i + j) / 2), ⟨by show _ - i < j - i; omega, h1, hb, by show (i + j) / 2 ≤ _; omega⟩, ?_⟩
      repeat' apply And.intro
      all_goals first | rfl | trivial | exact ra
  · rw [ltI_no (by omega), ite2_false, Int.toNat_natCast]
    obtain rfl : i = posP L s := by omega
    unfold hasP
    refine ite2_iff.2 ⟨fun h => ?_, fun h => ?_⟩
    · have h := of_ltI h
      rw [inB_of (by omega) (by omega), ltB_of (by omega), Bool.true_and]
      exact ⟨rfl, rfl⟩
    · have h := of_ltI_no h
      rw [ltB_no (by omega), Bool.false_and]
      exact ⟨rfl, rfl⟩
noncomputable def P2 : Ctr Try.E := (P1.add 22 (fun
    | [.vecr _ 34 n f] => some (leB n 1000000000 && isPns n f, .ret (.int .i64 (faultPS (pnsOf n f))) [])
    | _ => none) (by
      intro args pre out h hp
      split at h
      · simp only [Option.some.injEq, Prod.mk.injEq] at h
        obtain ⟨rfl, rfl⟩ := h
        simp only [Bool.and_eq_true] at hp
        obtain ⟨L, rfl, hf⟩ := isPns_iff.1 hp.2
        rw [pnsOf_eq L rfl hf]
        refine HCall.args (pcheck_c false L (leB_iff.1 hp.1)) rfl fun ρ I w vs r => ?_
        obtain ⟨x, xs, rfl, k1, k2⟩ := RV_cons.1 r
        exact RV_cons.2 ⟨x, xs, rfl, leV_vecr (by simp) (fun i hi => leR.of_eq (pcs_ok L i).ok (hf i hi)) _ _ _ _ k1, k2⟩
      · simp at h)).add 29 (fun
    | [.vecr _ 34 n f, .str s] => some ((leB n 1000000000 && isPns n f) && pinsOk (pnsOf n f), .ret (.tup [.int .i64 ((posS (pnsOf n f) s : Nat) : Int), .bool (hasS (pnsOf n f) s)]) [])
    | _ => none) (by
      intro args pre out h hp
      split at h
      · simp only [Option.some.injEq, Prod.mk.injEq] at h
        obtain ⟨rfl, rfl⟩ := h
        simp only [Bool.and_eq_true] at hp
        obtain ⟨L, rfl, hf⟩ := isPns_iff.1 hp.1.2
        have hp2 := hp.2
        rw [pnsOf_eq L rfl hf] at hp2 ⊢
        refine HCall.args (pfind_c false L _ (leB_iff.1 hp.1.1) hp2) rfl fun ρ I w vs r => ?_
        obtain ⟨x, xs, rfl, k1, k2⟩ := RV_cons.1 r
        exact RV_cons.2 ⟨x, xs, rfl, leV_vecr (by simp) (fun i hi => leR.of_eq (pcs_ok L i).ok (hf i hi)) _ _ _ _ k1, k2⟩
      · simp at h)
end Go.Proofs.Ytfpladpbnbpehaa
