import Derived.Test.YtfjmpdoidkblcaaDoorG3A
set_option linter.unusedSimpArgs false
set_option linter.unusedVariables false
namespace Go.Proofs.YtfjmpdoidkblcaaDoor
open Go Go.V Go.Fld

theorem less_c (a b : List UInt64) : HCall Tryd.E 32 [.w64 4 a, .w64 4 b]
    (.ret (.tup [.w64 4 (fes (subT (nv a) (nv b))), .bool (ltN (nv a) (nv b))]) []) := by
  refine HCall.of_len rfl rfl fun hl => ?_
  have ha : a.length = 4 := hl _ (List.mem_cons_self ..)
  have hb : b.length = 4 := hl (.w64 4 b) (by simp)
  rw [eta4 ha, eta4 hb]
  generalize a.getD 0 0 = a0; generalize a.getD 1 0 = a1; generalize a.getD 2 0 = a2; generalize a.getD 3 0 = a3
  generalize b.getD 0 0 = b0; generalize b.getD 1 0 = b1; generalize b.getD 2 0 = b2; generalize b.getD 3 0 = b3
  refine HCall.of_walk (R := RR) (T := Ctr.nil _) (fun _ _ => .unroll 6) 3 rfl rfl ?_
  rw [less_eq]
  simp only [List.getD_cons_zero, List.getD_cons_succ, List.set_cons_zero, List.set_cons_succ, bit1, bit1_carry, bit1_borrow, cnd_true, has_ret, nv_mk, and_true]
  have z : (0 : UInt64).toNat = 0 := rfl
  have p0 := sub_part a0 b0 0 (by decide)
  have p1 := sub_part a1 b1 _ p0.2
  have p2 := sub_part a2 b2 _ p1.2
  have p3 := sub_part a3 b3 _ p2.2
  generalize borrow64 a0 b0 0 = c0 at *
  generalize borrow64 a1 b1 c0 = c1 at *
  generalize borrow64 a2 b2 c1 = c2 at *
  generalize borrow64 a3 b3 c2 = c3 at *
  have k : val (a0 - b0 - 0) (a1 - b1 - c0) (a2 - b2 - c1) (a3 - b3 - c2) + val b0 b1 b2 b3 = val a0 a1 a2 a3 + top * c3.toNat := by
    unfold val top
    omega
  have l := val_lt (a0 - b0 - 0) (a1 - b1 - c0) (a2 - b2 - c1) (a3 - b3 - c2)
  have la := val_lt a0 a1 a2 a3
  have lb := val_lt b0 b1 b2 b3
  rw [← fes_val]
  generalize val (a0 - b0 - 0) (a1 - b1 - c0) (a2 - b2 - c1) (a3 - b3 - c2) = r at *
  generalize val a0 a1 a2 a3 = x at *
  generalize val b0 b1 b2 b3 = y at *
  have c3' : c3.toNat = if x < y then 1 else 0 := by
    have := p3.2
    unfold top at *
    split <;> omega
  rw [c3'] at k ⊢
  rw [ltN_eq, subT]
  by_cases e : x < y
  · simp only [e, if_true, decide_true] at k ⊢
    rw [show r = x + top - y by unfold top at *; omega]
    rfl
  · simp only [e, if_false, decide_false] at k ⊢
    rw [show r = x - y by omega]
    rfl

theorem mul64_c (x y : UInt64) : HCall Tryd.E 35 [.u64 x, .u64 y] (.ret (.tup [.u64 (mulhi x y), .u64 (x * y)]) []) := by
  refine HCall.of_walk (R := RR) (T := Ctr.nil _) (fun _ _ => .unroll 6) 3 rfl rfl ?_
  rw [mul64_eq]
  simp only [has_ret, and_true]
  rw [mulhi_eq, ← mul64_hi]

/-- What is known of calls so far. -/
noncomputable def T1 : Ctr Tryd.E := ((Ctr.nil _).add 32 (fun
    | [.w64 4 a, .w64 4 b] => some (true, .ret (.tup [.w64 4 (fes (subT (nv a) (nv b))), .bool (ltN (nv a) (nv b))]) [])
    | _ => none) (by
      intro args pre out h _
      split at h
      · simp only [Option.some.injEq, Prod.mk.injEq] at h
        obtain ⟨_, rfl⟩ := h
        exact less_c _ _
      · simp at h)).add 35 (fun
    | [.u64 x, .u64 y] => some (true, .ret (.tup [.u64 (mulhi x y), .u64 (x * y)]) [])
    | _ => none) (by
      intro args pre out h _
      split at h
      · simp only [Option.some.injEq, Prod.mk.injEq] at h
        obtain ⟨_, rfl⟩ := h
        exact mul64_c _ _
      · simp at h)
end Go.Proofs.YtfjmpdoidkblcaaDoor
