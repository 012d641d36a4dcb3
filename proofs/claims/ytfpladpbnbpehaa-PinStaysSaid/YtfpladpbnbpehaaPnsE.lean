import Derived.Test.YtfpladpbnbpehaaGPnsD
set_option linter.unusedSimpArgs false
set_option linter.unusedVariables false
namespace Go.Proofs.Ytfpladpbnbpehaa
open Go Go.V Go.Pin
set_option maxRecDepth 100000
theorem pins_of (L : List Pn) : pnsOf L.length (pcs L) = L := pnsOf_eq L rfl fun _ _ => rfl
theorem pFind_c (full : Bool) (L : List Pn) (s : List UInt8) (hL : L.length ≤ 1000000000) :
    HCall Try.E 18 [.vecr full 34 L.length (pcs L), .str s] (.ret (.tup [.agg (findS L s).1.cells, .int .i64 (findS L s).2]) []) := by
  refine HCall.of_walk (R := R1) (T := P3) (fun _ _ => .unroll 2) 5 rfl rfl ?_
  rw [pFind_eq, findS_eq]
  dsimp only
  rw [pins_of, faultPS_eq, posS_eq, hasS_eq, isPns_pcs, leB_of hL]
  unfold findP
  show ite2 (faultP L != 0) _ _
  cases hf : faultP L == 0 with
  | false =>
    have : (faultP L != 0) = true := by rw [bne, hf]; rfl
    rw [this]
    exact ⟨rfl, rfl⟩
  | true =>
    have : (faultP L != 0) = false := by rw [bne, hf]; rfl
    have h0 : faultP L = 0 := by simpa using hf
    obtain ⟨h8, hp⟩ := fault_le h0
    rw [this, hp]
    show ite2 (!hasP L s) _ _
    cases hh : hasP L s with
    | false => exact ⟨rfl, rfl⟩
    | true =>
      have hlt : posP L s < L.length := by
        unfold hasP at hh
        rw [Bool.and_eq_true] at hh
        exact ltB_iff.1 hh.1
      show cnd _ _
      rw [inB_of (by omega) (by omega), Int.toNat_natCast]
      exact ⟨rfl, rfl⟩
theorem hasP_lt {L : List Pn} {s : List UInt8} (h : hasP L s = true) : posP L s < L.length := by
  unfold hasP at h
  rw [Bool.and_eq_true] at h
  exact ltB_iff.1 h.1
theorem pos_slices (n k : Nat) (h : k ≤ n) : sliceOk none (some ((k : Nat) : Int)) n = true ∧ sliceOk (some ((k : Nat) : Int)) none n = true ∧ hiN n (some ((k : Nat) : Int)) - 0 = k ∧ hiN n none = n ∧ loN (some ((k : Nat) : Int)) = k ∧ loN none = 0 := by
  refine ⟨?_, ?_, ?_, rfl, Int.toNat_natCast _, rfl⟩
  · show (nnB _ && leB (Int.toNat _) _) = true
    rw [nnB_nat, Int.toNat_natCast, leB_of h]; rfl
  · show (nnB _ && leB (Int.toNat _) _) = true
    rw [nnB_nat, Int.toNat_natCast, leB_of h]; rfl
  · show k - 0 = k; omega
theorem ins_rows {L : List Pn} {k : Nat} {g : List Pn} (hk : k ≤ L.length) {c : Nat → List AV} (hc : ∀ i, i < g.length → c i = pcs g i) {m : Nat} (hm : m ≤ L.length) :
    ∀ i, i < k + g.length + (L.length - m) → catF (k + g.length) (catF k (fun i => pcs L (0 + i)) c) (fun i => pcs L (m + i)) i = pcs ((L.take k ++ g) ++ L.drop m) i := by
  have h1 := catF_pcs (a := L.take k) (b := g) (n := k) (f := fun i => pcs L (0 + i)) (g := c) (by rw [List.length_take]; omega) (fun i hi => by rw [Nat.zero_add]; exact (pcs_take hi).symm) hc
  have h2 := catF_pcs (a := L.take k ++ g) (b := L.drop m) (n := k + g.length) (f := catF k (fun i => pcs L (0 + i)) c) (g := fun i => pcs L (m + i)) (by rw [List.length_append, List.length_take]; omega) h1 (fun i _ => pcs_drop.symm)
  intro i hi
  exact h2 i (by rw [List.length_drop]; exact hi)
theorem pTrust_c (full : Bool) (L : List Pn) (s k : List UInt8) (hL : L.length ≤ 1000000000) :
    HCall Try.E 19 [.vecr full 34 L.length (pcs L), .str s, .b8 32 k] (pinsO (trustS L s k)) := by
  refine HCall.of_walkC (R := R1) (T := P3) (fun _ _ => .unroll 2) 5 rfl rfl ?_
  rw [pTrust_eq, trustS_eq]
  dsimp only
  rw [pins_of, faultPS_eq, posS_eq, hasS_eq, isPns_pcs, leB_of hL]
  obtain ⟨r, hr⟩ : ∃ r, trustP L s k = r := ⟨_, rfl⟩
  have hdef := hr
  unfold trustP at hdef
  rw [hr]
  show ite2 (faultP L != 0) _ _
  cases hf : faultP L == 0 with
  | false =>
    have : (faultP L != 0) = true := by rw [bne, hf]; rfl
    rw [this]
    rw [hf] at hdef
    exact pins_nil hdef.symm
  | true =>
    have : (faultP L != 0) = false := by rw [bne, hf]; rfl
    have h0 : faultP L = 0 := by simpa using hf
    obtain ⟨h8, hp⟩ := fault_le h0
    rw [hf, cond_true] at hdef
    rw [this, hp]
    show ite2 (!nameOk s) _ _
    cases hn : nameOk s with
    | false => rw [hn] at hdef; exact pins_nil hdef.symm
    | true =>
      rw [hn, cond_true] at hdef
      show ite2 (hasP L s) _ _
      have hpl := posP_le L s
      cases hh : hasP L s with
      | true =>
        have hlt := hasP_lt hh
        rw [hh, cond_true] at hdef
        show cnd _ _
        rw [inB_of (by omega) (by omega), Int.toNat_natCast]
        show ite2 (L.getD (posP L s) pn0).gone _ _
        cases hg : (L.getD (posP L s) pn0).gone with
        | true => rw [hg] at hdef; exact pins_nil hdef.symm
        | false =>
          rw [hg, Bool.false_or] at hdef
          show ite2 (!((L.getD (posP L s) pn0).key == k)) _ _
          cases hk : (L.getD (posP L s) pn0).key == k with
          | false => rw [hk] at hdef; exact pins_nil hdef.symm
          | true =>
            rw [hk] at hdef
            show cnd _ _
            rw [leB_of (by omega)]
            exact pins_rows hdef.symm rfl fun _ _ => rfl
      | false =>
        rw [hh, cond_false] at hdef
        show ite2 (((L.length : Nat) : Int) == 8) _ _
        have he : (((L.length : Nat) : Int) == 8) = (L.length == 8) := by
          cases h : L.length == 8 with
          | true => have : L.length = 8 := by simpa using h
                    rw [this]; rfl
          | false => have : L.length ≠ 8 := by simpa using h
                     rw [beq_false_of_ne (by omega)]
        rw [he]
        cases h88 : L.length == 8 with
        | true => rw [h88] at hdef; exact pins_nil hdef.symm
        | false =>
          rw [h88, cond_false] at hdef
          obtain ⟨s1, s2, s3, s4, s5, s6⟩ := pos_slices L.length (posP L s) hpl
          rw [s1, s2, s3, s4, s5, s6]
          show cnd _ _
          rw [leB_of (by omega), beq_self_eq_true, beq_self_eq_true, leB_of (by omega), leB_of (by omega)]
          refine pins_rows hdef.symm ?_ (ins_rows (g := [⟨s, k, false⟩]) hpl (fun i hi => ?_) hpl)
          · unfold insP
            rw [List.length_append, List.length_append, List.length_take, List.length_drop]
            show _ = _ + 1 + _; omega
          · obtain rfl : i = 0 := by simpa using hi
            rfl
end Go.Proofs.Ytfpladpbnbpehaa
