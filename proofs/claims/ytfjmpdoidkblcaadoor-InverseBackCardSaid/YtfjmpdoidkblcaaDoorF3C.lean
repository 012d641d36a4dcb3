import Derived.Test.YtfjmpdoidkblcaaDoorG3C
set_option linter.unusedSimpArgs false
set_option linter.unusedVariables false
namespace Go.Proofs.YtfjmpdoidkblcaaDoor
open Go Go.V Go.Fld

theorem settled_c (a : List UInt64) : HCall Tryd.E 23 [.w64 4 a] (.ret (.w64 4 (fes (nv a % prm))) []) := by
  refine HCall.of_len rfl rfl fun hl => ?_
  have ha : a.length = 4 := hl _ (List.mem_cons_self ..)
  refine HCall.of_walk (R := RR) (T := T2) (fun _ _ => .unroll 3) 3 rfl rfl ?_
  rw [settled_eq]
  have hp : (57896044618658097711785492504343953926634992332820282019728792003956564819949 : Nat) = prm := rfl
  simp only [hp, ite2_eq, has_ret, ltN_eq, and_true, AV.w64.injEq, true_and, Bool.not_eq_true', Bool.not_eq_false', decide_eq_true_eq, decide_eq_false_iff_not]
  have l := nv_lt a
  have e := fes_nv ha
  generalize nv a = x at *
  have ep := top_prm
  have e2 : 38 < prm := by decide
  refine ⟨fun h1 => ?_, fun h1 => by rw [Nat.mod_eq_of_lt h1, e]⟩
  have s1 : subT x prm = x - prm := by unfold subT; rw [if_neg h1]
  have l1 : x - prm < top := by omega
  rw [s1, nv_fes l1]
  refine ⟨fun h2 => ?_, fun h2 => by rw [set_mod h1 h2]⟩
  have s2 : subT (x - prm) prm = x - prm - prm := by unfold subT; rw [if_neg h2]
  rw [s2, nv_fes (by omega)]
  refine ⟨fun h3 => absurd (set_two l) h3, fun h3 => by rw [set_mod2 l h1 h2]⟩

theorem sub_c (a b : List UInt64) (ha : nv a < prm) (hb : nv b < prm) : HCall Tryd.E 28 [.w64 4 a, .w64 4 b] (.ret (.w64 4 (fes ((nv a + prm - nv b) % prm))) []) := by
  refine HCall.of_walk (R := RR) (T := T2) (fun _ _ => .unroll 6) 3 rfl rfl ?_
  rw [subc_eq]
  simp only [ite2_eq, ltN_eq, decide_eq_true_eq, decide_eq_false_iff_not]
  have ep := top_prm
  generalize nv a = x at *
  generalize nv b = y at *
  refine ⟨fun h => ?_, fun h => ?_⟩
  · have s : subT x y = x + top - y := by unfold subT; rw [if_pos h]
    obtain ⟨d0, d1, d2, d3, hd⟩ := val_ex (n := x + top - y) (by omega)
    rw [s, hd, fes_val]
    simp only [List.getD_cons_zero, List.getD_cons_succ, List.set_cons_zero, List.set_cons_succ, bit1, bit1_carry, bit1_borrow, cnd_true, has_ret, and_true, AV.w64.injEq, true_and]
    obtain ⟨c, hc, hc1, hv⟩ := add_val d0 d1 d2 d3 18446744073709551597 18446744073709551615 18446744073709551615 9223372036854775807 0 (by decide)
    have e : val 18446744073709551597 18446744073709551615 18446744073709551615 9223372036854775807 = prm := by decide
    rw [e, ← hd] at hv
    have ll := val_lt (d0 + 18446744073709551597 + 0) (d1 + 18446744073709551615 + carry64 d0 18446744073709551597 0) (d2 + 18446744073709551615 + carry64 d1 18446744073709551615 (carry64 d0 18446744073709551597 0)) (d3 + 9223372036854775807 + carry64 d2 18446744073709551615 (carry64 d1 18446744073709551615 (carry64 d0 18446744073709551597 0)))
    rw [← fes_val, Nat.mod_eq_of_lt (by omega)]
    generalize val (d0 + 18446744073709551597 + 0) _ _ _ = r at *
    have z0 : (0 : UInt64).toNat = 0 := rfl
    have z : c = 0 ∨ c = 1 := by omega
    rcases z with rfl | rfl
    · omega
    · rw [show r = x + prm - y by omega]
  · have s : subT x y = x - y := by unfold subT; rw [if_neg h]
    rw [s, show x + prm - y = (x - y) + prm by omega, Nat.add_mod_right, Nat.mod_eq_of_lt (by omega)]
    exact has_refl

noncomputable def T3 : Ctr Tryd.E := (T2.add 23 (fun
    | [.w64 4 a] => some (true, .ret (.w64 4 (fes (nv a % prm))) [])
    | _ => none) (by
      intro args pre out h _
      split at h
      · simp only [Option.some.injEq, Prod.mk.injEq] at h
        obtain ⟨_, rfl⟩ := h
        exact settled_c _
      · simp at h)).add 28 (fun
    | [.w64 4 a, .w64 4 b] => some (ltN (nv a) prm && ltN (nv b) prm, .ret (.w64 4 (fes ((nv a + prm - nv b) % prm))) [])
    | _ => none) (by
      intro args pre out h hp
      split at h
      · simp only [Option.some.injEq, Prod.mk.injEq] at h
        obtain ⟨rfl, rfl⟩ := h
        simp only [Bool.and_eq_true, ltN_eq, decide_eq_true_eq] at hp
        exact sub_c _ _ hp.1 hp.2
      · simp at h)
end Go.Proofs.YtfjmpdoidkblcaaDoor
