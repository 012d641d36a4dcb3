import Derived.Test.YtfjmpdoidkblcaaDoorG3B
set_option linter.unusedSimpArgs false
set_option linter.unusedVariables false
namespace Go.Proofs.YtfjmpdoidkblcaaDoor
open Go Go.V Go.Fld

theorem below_c (a : List UInt64) : HCall Tryd.E 24 [.w64 4 a] (.ret (.bool (ltN (nv a) prm)) []) := by
  refine HCall.of_walk (R := RR) (T := T1) (fun _ _ => .unroll 6) 3 rfl rfl ?_
  rw [below_eq]
  exact has_refl

theorem plus_round (a0 a1 a2 a3 n : UInt64) : ∃ b, b ≤ 1 ∧ (38 * carry64 (a3) 0 (carry64 a2 0 (carry64 a1 0 (carry64 a0 n 0)))).toNat = 38 * b ∧
    val (a0 + n + 0) (a1 + 0 + carry64 a0 n 0) (a2 + 0 + carry64 a1 0 (carry64 a0 n 0)) (a3 + 0 + carry64 a2 0 (carry64 a1 0 (carry64 a0 n 0))) + top * b = val a0 a1 a2 a3 + n.toNat := by
  obtain ⟨b, hb, hb1, hv⟩ := add_val a0 a1 a2 a3 n 0 0 0 0 (by decide)
  refine ⟨b, hb1, times38 _ hb hb1, ?_⟩
  rw [hv]
  have e : val n 0 0 0 = n.toNat := by simp [val]
  have e0 : (0 : UInt64).toNat = 0 := rfl
  omega

theorem plus_c (a : List UInt64) (n : UInt64) : HCall Tryd.E 34 [.w64 4 a, .u64 n] (.ret (.w64 4 (fes (plusN (nv a) n.toNat))) []) := by
  refine HCall.of_len rfl rfl fun hl => ?_
  have ha : a.length = 4 := hl _ (List.mem_cons_self ..)
  rw [eta4 ha]
  generalize a.getD 0 0 = a0; generalize a.getD 1 0 = a1; generalize a.getD 2 0 = a2; generalize a.getD 3 0 = a3
  refine HCall.of_walk (R := RR) (T := T1) (fun _ l => bif l == 1 then .unroll 3 else .unroll 6) 3 rfl rfl ?_
  rw [plus_eq]
  simp only [List.getD_cons_zero, List.getD_cons_succ, List.set_cons_zero, List.set_cons_succ, bit1, bit1_carry, bit1_borrow, cnd_true, has_ret, nv_mk, and_true, ite2_eq]
  obtain ⟨b, hb, h38, hv⟩ := plus_round a0 a1 a2 a3 n
  have l0 := val_lt a0 a1 a2 a3
  have ln := lt64 n
  generalize 38 * carry64 a3 0 (carry64 a2 0 (carry64 a1 0 (carry64 a0 n 0))) = m at *
  generalize a0 + n + 0 = r0 at *
  generalize a1 + 0 + carry64 a0 n 0 = r1 at *
  generalize a2 + 0 + carry64 a1 0 (carry64 a0 n 0) = r2 at *
  generalize a3 + 0 + carry64 a2 0 (carry64 a1 0 (carry64 a0 n 0)) = r3 at *
  have l1 := val_lt r0 r1 r2 r3
  obtain ⟨b', hb', h38', hv'⟩ := plus_round r0 r1 r2 r3 m
  generalize 38 * carry64 r3 0 (carry64 r2 0 (carry64 r1 0 (carry64 r0 m 0))) = m' at *
  generalize r0 + m + 0 = s0 at *
  generalize r1 + 0 + carry64 r0 m 0 = s1 at *
  generalize r2 + 0 + carry64 r1 0 (carry64 r0 m 0) = s2 at *
  generalize r3 + 0 + carry64 r2 0 (carry64 r1 0 (carry64 r0 m 0)) = s3 at *
  have l2 := val_lt s0 s1 s2 s3
  rw [← fes_val, ← fes_val, ← fes_val]
  generalize val a0 a1 a2 a3 = x at *
  generalize val r0 r1 r2 r3 = y at *
  generalize val s0 s1 s2 s3 = z at *
  have g : top = 115792089237316195423570985008687907853269984665640564039457584007913129639936 := rfl
  have key : ∀ u : UInt64, (((u.toNat : Nat) : Int) != 0) = true ↔ u.toNat ≠ 0 := by intro u; simp
  have key' : ∀ u : UInt64, (((u.toNat : Nat) : Int) != 0) = false ↔ u.toNat = 0 := by intro u; simp
  simp only [key, key', AV.w64.injEq, true_and]
  unfold plusN
  rw [g] at hv hv' l0 l1 l2 ⊢
  have zb : b = 0 ∨ b = 1 := by omega
  have zb' : b' = 0 ∨ b' = 1 := by omega
  refine ⟨fun h0 => ⟨fun h1 => ⟨fun h2 => ?_, fun h2 => ?_⟩, fun h1 => ?_⟩, fun h0 => ?_⟩
  · rcases zb with rfl | rfl <;> rcases zb' with rfl | rfl <;> omega
  · rcases zb with rfl | rfl <;> rcases zb' with rfl | rfl <;> try omega
    rw [if_neg (by omega), show z = x + n.toNat - 115792089237316195423570985008687907853269984665640564039457584007913129639936 + 38 by omega]
  · rcases zb with rfl | rfl <;> try omega
    rw [if_pos (by omega), show y = x + n.toNat by omega]
  · rw [if_pos (by omega), show x + n.toNat = x by omega]

noncomputable def T2 : Ctr Tryd.E := (T1.add 24 (fun
    | [.w64 4 a] => some (true, .ret (.bool (ltN (nv a) prm)) [])
    | _ => none) (by
      intro args pre out h _
      split at h
      · simp only [Option.some.injEq, Prod.mk.injEq] at h
        obtain ⟨_, rfl⟩ := h
        exact below_c _
      · simp at h)).add 34 (fun
    | [.w64 4 a, .u64 n] => some (true, .ret (.w64 4 (fes (plusN (nv a) n.toNat))) [])
    | _ => none) (by
      intro args pre out h _
      split at h
      · simp only [Option.some.injEq, Prod.mk.injEq] at h
        obtain ⟨_, rfl⟩ := h
        exact plus_c _ _
      · simp at h)
end Go.Proofs.YtfjmpdoidkblcaaDoor
