import Derived.Test.YtfpladpbnbpehaaPnsE
set_option linter.unusedSimpArgs false
set_option linter.unusedVariables false
namespace Go.Proofs.Ytfpladpbnbpehaa
open Go Go.V Go.Pin
set_option maxRecDepth 100000
theorem pRotate_c (full : Bool) (L : List Pn) (s k : List UInt8) (hL : L.length ≤ 1000000000) :
    HCall Try.E 21 [.vecr full 34 L.length (pcs L), .str s, .b8 32 k] (pinsO (rotateS L s k)) := by
  refine HCall.of_walkC (R := R1) (T := P3) (fun _ _ => .unroll 2) 5 rfl rfl ?_
  rw [pRotate_eq, rotateS_eq]
  dsimp only
  rw [pins_of, faultPS_eq, posS_eq, hasS_eq, isPns_pcs, leB_of hL]
  obtain ⟨r, hr⟩ : ∃ r, rotateP L s k = r := ⟨_, rfl⟩
  have hdef := hr
  unfold rotateP changeP at hdef
  rw [hr]
  show ite2 (faultP L != 0) _ _
  cases hf : faultP L == 0 with
  | false =>
    have : (faultP L != 0) = true := by rw [bne, hf]; rfl
    rw [this]
    rw [hf] at hdef
    exact pins_nil hdef.symm
  | true =>
    have : (faultP L != 0) = false := by rw [bne, hf]; rfl
    have h0 : faultP L = 0 := by simpa using hf
    obtain ⟨h8, hp⟩ := fault_le h0
    rw [hf, cond_true] at hdef
    rw [this, hp]
    show ite2 (!hasP L s) _ _
    have hpl := posP_le L s
    cases hh : hasP L s with
    | false => rw [hh] at hdef; exact pins_nil hdef.symm
    | true =>
      have hlt := hasP_lt hh
      rw [hh, cond_true] at hdef
      obtain ⟨s1, _, s3, s4, _, s6⟩ := pos_slices L.length (posP L s) hpl
      have hw : wr .i64 (((posP L s : Nat) : Int) + 1) = ((posP L s + 1 : Nat) : Int) := by rw [wr_of (by omega) (by omega)]; rfl
      obtain ⟨_, s2, _, _, s5, _⟩ := pos_slices L.length (posP L s + 1) (by omega)
      rw [hw, s1, s2, s3, s4, s5, s6, inB_of (by omega) (by omega)]
      show cnd _ _
      rw [leB_of (by omega)]
      show cnd _ (cnd _ (cnd _ _))
      rw [beq_self_eq_true, leB_of (by omega)]
      show cnd _ (cnd _ _)
      rw [beq_self_eq_true, leB_of (by omega)]
      refine pins_rows hdef.symm ?_ (ins_rows (g := [⟨(L.getD (posP L s) pn0).name, k, false⟩]) hpl (fun i hi => ?_) (by omega))
      · unfold chgP
        rw [List.length_append, List.length_append, List.length_take, List.length_drop]
        show _ = _ + 1 + _; omega
      · obtain rfl : i = 0 := by simpa using hi
        first | rfl | (rw [Int.toNat_natCast])
theorem pRevoke_c (full : Bool) (L : List Pn) (s : List UInt8) (hL : L.length ≤ 1000000000) :
    HCall Try.E 28 [.vecr full 34 L.length (pcs L), .str s] (pinsO (revokeS L s)) := by
  refine HCall.of_walkC (R := R1) (T := P3) (fun _ _ => .unroll 2) 5 rfl rfl ?_
  rw [pRevoke_eq, revokeS_eq]
  dsimp only
  rw [pins_of, faultPS_eq, posS_eq, hasS_eq, isPns_pcs, leB_of hL]
  obtain ⟨r, hr⟩ : ∃ r, revokeP L s = r := ⟨_, rfl⟩
  have hdef := hr
  unfold revokeP changeP at hdef
  rw [hr]
  show ite2 (faultP L != 0) _ _
  cases hf : faultP L == 0 with
  | false =>
    have : (faultP L != 0) = true := by rw [bne, hf]; rfl
    rw [this]
    rw [hf] at hdef
    exact pins_nil hdef.symm
  | true =>
    have : (faultP L != 0) = false := by rw [bne, hf]; rfl
    have h0 : faultP L = 0 := by simpa using hf
    obtain ⟨h8, hp⟩ := fault_le h0
    rw [hf, cond_true] at hdef
    rw [this, hp]
    show ite2 (!hasP L s) _ _
    have hpl := posP_le L s
    cases hh : hasP L s with
    | false => rw [hh] at hdef; exact pins_nil hdef.symm
    | true =>
      have hlt := hasP_lt hh
      rw [hh, cond_true] at hdef
      obtain ⟨s1, _, s3, s4, _, s6⟩ := pos_slices L.length (posP L s) hpl
      have hw : wr .i64 (((posP L s : Nat) : Int) + 1) = ((posP L s + 1 : Nat) : Int) := by rw [wr_of (by omega) (by omega)]; rfl
      obtain ⟨_, s2, _, _, s5, _⟩ := pos_slices L.length (posP L s + 1) (by omega)
      rw [hw, s1, s2, s3, s4, s5, s6, inB_of (by omega) (by omega)]
      show cnd _ _
      rw [leB_of (by omega)]
      show cnd _ (cnd _ (cnd _ _))
      rw [beq_self_eq_true, leB_of (by omega)]
      show cnd _ (cnd _ _)
      rw [beq_self_eq_true, leB_of (by omega)]
      refine pins_rows hdef.symm ?_ (ins_rows (g := [⟨(L.getD (posP L s) pn0).name, (L.getD (posP L s) pn0).key, true⟩]) hpl (fun i hi => ?_) (by omega))
      · unfold chgP
        rw [List.length_append, List.length_append, List.length_take, List.length_drop]
        show _ = _ + 1 + _; omega
      · obtain rfl : i = 0 := by simpa using hi
        first | rfl | (rw [Int.toNat_natCast])
theorem pForget_c (full : Bool) (L : List Pn) (s : List UInt8) (hL : L.length ≤ 1000000000) :
    HCall Try.E 25 [.vecr full 34 L.length (pcs L), .str s] (pinsO (forgetS L s)) := by
  refine HCall.of_walkC (R := R1) (T := P3) (fun _ _ => .unroll 2) 5 rfl rfl ?_
  rw [pForget_eq, forgetS_eq]
  dsimp only
  rw [pins_of, faultPS_eq, posS_eq, hasS_eq, isPns_pcs, leB_of hL]
  obtain ⟨r, hr⟩ : ∃ r, forgetP L s = r := ⟨_, rfl⟩
  have hdef := hr
  unfold forgetP changeP at hdef
  rw [hr]
  show ite2 (faultP L != 0) _ _
  cases hf : faultP L == 0 with
  | false =>
    have : (faultP L != 0) = true := by rw [bne, hf]; rfl
    rw [this]
    rw [hf] at hdef
    exact pins_nil hdef.symm
  | true =>
    have : (faultP L != 0) = false := by rw [bne, hf]; rfl
    have h0 : faultP L = 0 := by simpa using hf
    obtain ⟨h8, hp⟩ := fault_le h0
    rw [hf, cond_true] at hdef
    rw [this, hp]
    show ite2 (!hasP L s) _ _
    have hpl := posP_le L s
    cases hh : hasP L s with
    | false => rw [hh] at hdef; exact pins_nil hdef.symm
    | true =>
      have hlt := hasP_lt hh
      rw [hh, cond_true] at hdef
      obtain ⟨s1, _, s3, s4, _, s6⟩ := pos_slices L.length (posP L s) hpl
      have hw : wr .i64 (((posP L s : Nat) : Int) + 1) = ((posP L s + 1 : Nat) : Int) := by rw [wr_of (by omega) (by omega)]; rfl
      obtain ⟨_, s2, _, _, s5, _⟩ := pos_slices L.length (posP L s + 1) (by omega)
      rw [hw, s1, s2, s3, s4, s5, s6, inB_of (by omega) (by omega)]
      show cnd _ _
      rw [leB_of (by omega)]
      show cnd _ (cnd _ (cnd _ _))
      rw [beq_self_eq_true, leB_of (by omega)]
      show cnd _ (cnd _ _)
      rw [beq_self_eq_true, leB_of (by omega)]
      refine pins_rows hdef.symm ?_ (ins_rows (g := []) hpl (fun i hi => ?_) (by omega))
      · unfold chgP
        rw [List.length_append, List.length_append, List.length_take, List.length_drop]
        show _ = _ + 0 + _; omega
      · exact absurd hi (by simp)
noncomputable def P4 : Ctr Try.E := (((((P3.add 18 (fun
    | [.vecr _ 34 n f, .str s] => some (leB n 1000000000 && isPns n f, .ret (.tup [.agg [.str (findS (pnsOf n f) s).1.name, .b8 32 (findS (pnsOf n f) s).1.key, .bool (findS (pnsOf n f) s).1.gone], .int .i64 (findS (pnsOf n f) s).2]) [])
    | _ => none) (by
      intro args pre out h hp
      split at h
      · simp only [Option.some.injEq, Prod.mk.injEq] at h
        obtain ⟨rfl, rfl⟩ := h
        simp only [Bool.and_eq_true] at hp
        obtain ⟨L, rfl, hf⟩ := isPns_iff.1 hp.2
        rw [pnsOf_eq L rfl hf]
        refine HCall.args (pFind_c false L _ (leB_iff.1 hp.1)) rfl fun ρ I w vs r => ?_
        obtain ⟨x, xs, rfl, k1, k2⟩ := RV_cons.1 r
        exact RV_cons.2 ⟨x, xs, rfl, leV_vecr (by simp) (fun i hi => leR.of_eq (pcs_ok L i).ok (hf i hi)) _ _ _ _ k1, k2⟩
      · simp at h)).add 19 (fun
    | [.vecr _ 34 n f, .str s, .b8 32 k] => some (leB n 1000000000 && isPns n f, pinsO (trustS (pnsOf n f) s k))
    | _ => none) (by
      intro args pre out h hp
      split at h
      · simp only [Option.some.injEq, Prod.mk.injEq] at h
        obtain ⟨rfl, rfl⟩ := h
        simp only [Bool.and_eq_true] at hp
        obtain ⟨L, rfl, hf⟩ := isPns_iff.1 hp.2
        rw [pnsOf_eq L rfl hf]
        refine HCall.args (pTrust_c false L _ _ (leB_iff.1 hp.1)) rfl fun ρ I w vs r => ?_
        obtain ⟨x, xs, rfl, k1, k2⟩ := RV_cons.1 r
        exact RV_cons.2 ⟨x, xs, rfl, leV_vecr (by simp) (fun i hi => leR.of_eq (pcs_ok L i).ok (hf i hi)) _ _ _ _ k1, k2⟩
      · simp at h)).add 21 (fun
    | [.vecr _ 34 n f, .str s, .b8 32 k] => some (leB n 1000000000 && isPns n f, pinsO (rotateS (pnsOf n f) s k))
    | _ => none) (by
      intro args pre out h hp
      split at h
      · simp only [Option.some.injEq, Prod.mk.injEq] at h
        obtain ⟨rfl, rfl⟩ := h
        simp only [Bool.and_eq_true] at hp
        obtain ⟨L, rfl, hf⟩ := isPns_iff.1 hp.2
        rw [pnsOf_eq L rfl hf]
        refine HCall.args (pRotate_c false L _ _ (leB_iff.1 hp.1)) rfl fun ρ I w vs r => ?_
        obtain ⟨x, xs, rfl, k1, k2⟩ := RV_cons.1 r
        exact RV_cons.2 ⟨x, xs, rfl, leV_vecr (by simp) (fun i hi => leR.of_eq (pcs_ok L i).ok (hf i hi)) _ _ _ _ k1, k2⟩
      · simp at h)).add 28 (fun
    | [.vecr _ 34 n f, .str s] => some (leB n 1000000000 && isPns n f, pinsO (revokeS (pnsOf n f) s))
    | _ => none) (by
      intro args pre out h hp
      split at h
      · simp only [Option.some.injEq, Prod.mk.injEq] at h
        obtain ⟨rfl, rfl⟩ := h
        simp only [Bool.and_eq_true] at hp
        obtain ⟨L, rfl, hf⟩ := isPns_iff.1 hp.2
        rw [pnsOf_eq L rfl hf]
        refine HCall.args (pRevoke_c false L _ (leB_iff.1 hp.1)) rfl fun ρ I w vs r => ?_
        obtain ⟨x, xs, rfl, k1, k2⟩ := RV_cons.1 r
        exact RV_cons.2 ⟨x, xs, rfl, leV_vecr (by simp) (fun i hi => leR.of_eq (pcs_ok L i).ok (hf i hi)) _ _ _ _ k1, k2⟩
      · simp at h)).add 25 (fun
    | [.vecr _ 34 n f, .str s] => some (leB n 1000000000 && isPns n f, pinsO (forgetS (pnsOf n f) s))
    | _ => none) (by
      intro args pre out h hp
      split at h
      · simp only [Option.some.injEq, Prod.mk.injEq] at h
        obtain ⟨rfl, rfl⟩ := h
        simp only [Bool.and_eq_true] at hp
        obtain ⟨L, rfl, hf⟩ := isPns_iff.1 hp.2
        rw [pnsOf_eq L rfl hf]
        refine HCall.args (pForget_c false L _ (leB_iff.1 hp.1)) rfl fun ρ I w vs r => ?_
        obtain ⟨x, xs, rfl, k1, k2⟩ := RV_cons.1 r
        exact RV_cons.2 ⟨x, xs, rfl, leV_vecr (by simp) (fun i hi => leR.of_eq (pcs_ok L i).ok (hf i hi)) _ _ _ _ k1, k2⟩
      · simp at h))
end Go.Proofs.Ytfpladpbnbpehaa
