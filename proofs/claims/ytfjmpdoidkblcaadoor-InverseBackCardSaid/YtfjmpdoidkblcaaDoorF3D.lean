import Derived.Test.YtfjmpdoidkblcaaDoorG3D
import Derived.Test.YtfjmpdoidkblcaaDoorNumR
set_option linter.unusedSimpArgs false
set_option linter.unusedVariables false
namespace Go.Proofs.YtfjmpdoidkblcaaDoor
open Go Go.V Go.Fld

theorem add_c (a b : List UInt64) : HCall Tryd.E 26 [.w64 4 a, .w64 4 b] (.ret (.w64 4 (fes ((nv a + nv b) % prm))) []) := by
  refine HCall.of_len rfl rfl fun hl => ?_
  have ha : a.length = 4 := hl _ (List.mem_cons_self ..)
  have hb : b.length = 4 := hl (.w64 4 b) (by simp)
  rw [eta4 ha, eta4 hb]
  generalize a.getD 0 0 = a0; generalize a.getD 1 0 = a1; generalize a.getD 2 0 = a2; generalize a.getD 3 0 = a3
  generalize b.getD 0 0 = b0; generalize b.getD 1 0 = b1; generalize b.getD 2 0 = b2; generalize b.getD 3 0 = b3
  refine HCall.of_walk (R := RR) (T := T3) (fun _ _ => .unroll 6) 3 rfl rfl ?_
  rw [add_eq]
  simp only [List.getD_cons_zero, List.getD_cons_succ, List.set_cons_zero, List.set_cons_succ, bit1, bit1_carry, bit1_borrow, cnd_true, has_ret, and_true, AV.w64.injEq, true_and, nv_mk]
  obtain ⟨k, hk, hk1, hv⟩ := add_val a0 a1 a2 a3 b0 b1 b2 b3 0 (by decide)
  rw [times38 _ hk hk1]
  have z : (0 : UInt64).toNat = 0 := rfl
  have l := val_lt (a0 + b0 + 0) (a1 + b1 + carry64 a0 b0 0) (a2 + b2 + carry64 a1 b1 (carry64 a0 b0 0)) (a3 + b3 + carry64 a2 b2 (carry64 a1 b1 (carry64 a0 b0 0)))
  generalize val (a0 + b0 + 0) _ _ _ = r at *
  have hp : (57896044618658097711785492504343953926634992332820282019728792003956564819949 : Nat) = prm := rfl
  rw [hp, nv_fes (plus_lt l (by omega)), plus_mod, mod38, show r + top * k = val a0 a1 a2 a3 + val b0 b1 b2 b3 by omega]

theorem mul_walk (a0 a1 a2 a3 b0 b1 b2 b3 : UInt64) (K : AV → Heap → Prop) : walk Tryd.E RR T3.C (fun _ _ => .unroll 6) 3 27 [.w64 4 [a0, a1, a2, a3], .w64 4 [b0, b1, b2, b3]] K =
    K (.w64 4 (fes (nv (fes (plusN (nv (mulSpec a0 a1 a2 a3 b0 b1 b2 b3).1) (mulSpec a0 a1 a2 a3 b0 b1 b2 b3).2.toNat)) % prm))) [] := by kernel_rfl

theorem mul_c (a b : List UInt64) : HCall Tryd.E 27 [.w64 4 a, .w64 4 b] (.ret (.w64 4 (fes (nv a * nv b % prm))) []) := by
  refine HCall.of_len rfl rfl fun hl => ?_
  have ha : a.length = 4 := hl _ (List.mem_cons_self ..)
  have hb : b.length = 4 := hl (.w64 4 b) (by simp)
  rw [eta4 ha, eta4 hb]
  generalize a.getD 0 0 = a0; generalize a.getD 1 0 = a1; generalize a.getD 2 0 = a2; generalize a.getD 3 0 = a3
  generalize b.getD 0 0 = b0; generalize b.getD 1 0 = b1; generalize b.getD 2 0 = b2; generalize b.getD 3 0 = b3
  refine HCall.of_walk (R := RR) (T := T3) (fun _ _ => .unroll 6) 3 rfl rfl ?_
  rw [mul_walk]
  refine has_ret.2 ⟨?_, rfl⟩
  obtain ⟨k1, k2⟩ := mulSpec_ok a0 a1 a2 a3 b0 b1 b2 b3
  have l := nv_lt (mulSpec a0 a1 a2 a3 b0 b1 b2 b3).1
  rw [nv_fes (plus_lt l (by omega)), plus_mod, k2, nv_mk, nv_mk]

noncomputable def T4 : Ctr Tryd.E := (T3.add 26 (fun
    | [.w64 4 a, .w64 4 b] => some (true, .ret (.w64 4 (fes ((nv a + nv b) % prm))) [])
    | _ => none) (by
      intro args pre out h hp
      split at h
      · simp only [Option.some.injEq, Prod.mk.injEq] at h
        obtain ⟨rfl, rfl⟩ := h
        exact add_c _ _
      · simp at h)).add 27 (fun
    | [.w64 4 a, .w64 4 b] => some (true, .ret (.w64 4 (fes (nv a * nv b % prm))) [])
    | _ => none) (by
      intro args pre out h hp
      split at h
      · simp only [Option.some.injEq, Prod.mk.injEq] at h
        obtain ⟨rfl, rfl⟩ := h
        exact mul_c _ _
      · simp at h)
end Go.Proofs.YtfjmpdoidkblcaaDoor
