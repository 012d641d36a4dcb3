import Derived.Test.YtfjmpdoidkblcaaDoorF3D
set_option linter.unusedSimpArgs false
set_option linter.unusedVariables false
namespace Go.Proofs.YtfjmpdoidkblcaaDoor
open Go Go.V Go.Fld
set_option maxRecDepth 100000

theorem Add_w (a b : List UInt64) (K : AV → Heap → Prop) : walk Tryd.E RR T4.C (fun _ _ => .unroll 6) 3 15 [.w64 4 a, .w64 4 b] K =
    ite2 (!ltN (nv a) prm) (K (.tup [.w64 4 [0, 0, 0, 0], .int .i64 6]) []) (ite2 (!ltN (nv b) prm) (K (.tup [.w64 4 [0, 0, 0, 0], .int .i64 6]) []) (K (.tup [.w64 4 (fes ((nv a + nv b) % prm)), .int .i64 0]) [])) := by kernel_rfl
theorem Add_c (a b : List UInt64) (ha : nv a < prm) (hb : nv b < prm) : HCall Tryd.E 15 [.w64 4 a, .w64 4 b] (.ret (.tup [.w64 4 (fes ((nv a + nv b) % prm)), .int .i64 0]) []) := by
  refine HCall.of_walk (R := RR) (T := T4) (fun _ _ => .unroll 6) 3 rfl rfl ?_
  rw [Add_w, ltN_eq, ltN_eq, decide_eq_true ha, decide_eq_true hb]
  exact ⟨rfl, rfl⟩
theorem Mul_w (a b : List UInt64) (K : AV → Heap → Prop) : walk Tryd.E RR T4.C (fun _ _ => .unroll 6) 3 16 [.w64 4 a, .w64 4 b] K =
    ite2 (!ltN (nv a) prm) (K (.tup [.w64 4 [0, 0, 0, 0], .int .i64 6]) []) (ite2 (!ltN (nv b) prm) (K (.tup [.w64 4 [0, 0, 0, 0], .int .i64 6]) []) (K (.tup [.w64 4 (fes (nv a * nv b % prm)), .int .i64 0]) [])) := by kernel_rfl
theorem Mul_c (a b : List UInt64) (ha : nv a < prm) (hb : nv b < prm) : HCall Tryd.E 16 [.w64 4 a, .w64 4 b] (.ret (.tup [.w64 4 (fes (nv a * nv b % prm)), .int .i64 0]) []) := by
  refine HCall.of_walk (R := RR) (T := T4) (fun _ _ => .unroll 6) 3 rfl rfl ?_
  rw [Mul_w, ltN_eq, ltN_eq, decide_eq_true ha, decide_eq_true hb]
  exact ⟨rfl, rfl⟩
theorem Sub_w (a b : List UInt64) (K : AV → Heap → Prop) : walk Tryd.E RR T4.C (fun _ _ => .unroll 6) 3 17 [.w64 4 a, .w64 4 b] K =
    ite2 (!ltN (nv a) prm) (K (.tup [.w64 4 [0, 0, 0, 0], .int .i64 6]) []) (ite2 (!ltN (nv b) prm) (K (.tup [.w64 4 [0, 0, 0, 0], .int .i64 6]) []) (cnd (ltN (nv a) prm && ltN (nv b) prm) (K (.tup [.w64 4 (fes ((nv a + prm - nv b) % prm)), .int .i64 0]) []))) := by kernel_rfl
theorem Sub_c (a b : List UInt64) (ha : nv a < prm) (hb : nv b < prm) : HCall Tryd.E 17 [.w64 4 a, .w64 4 b] (.ret (.tup [.w64 4 (fes ((nv a + prm - nv b) % prm)), .int .i64 0]) []) := by
  refine HCall.of_walk (R := RR) (T := T4) (fun _ _ => .unroll 6) 3 rfl rfl ?_
  rw [Sub_w, ltN_eq, ltN_eq, decide_eq_true ha, decide_eq_true hb]
  exact ⟨rfl, rfl⟩
theorem Inv_w (a : List UInt64) (K : AV → Heap → Prop) : walk Tryd.E RR T4.C (fun _ _ => .unroll 257) 3 18 [.w64 4 a] K =
    ite2 (!ltN (nv a) prm) (K (.tup [.w64 4 [0, 0, 0, 0], .int .i64 6]) []) (K (.tup [.w64 4 (invS a 255 [1, 0, 0, 0]), .int .i64 0]) []) := by kernel_rfl
theorem Inv_c (a : List UInt64) (ha : nv a < prm) : HCall Tryd.E 18 [.w64 4 a] (.ret (.tup [.w64 4 (fes (nv a ^ (prm - 2) % prm)), .int .i64 0]) []) := by
  refine HCall.of_walk (R := RR) (T := T4) (fun _ _ => .unroll 257) 3 rfl rfl ?_
  rw [Inv_w, ltN_eq, decide_eq_true ha, invS_eq 255 _ (Nat.le_refl _) (by
    rw [show (prm - 2) / 2 ^ 255 = 0 by decide, Nat.pow_zero, fes_eq]; rfl)]
  exact ⟨rfl, rfl⟩
theorem From_w (b : List UInt8) (K : AV → Heap → Prop) : walk Tryd.E RR T4.C (fun _ _ => .unroll 33) 3 11 [.b8 32 b] K =
    K (.w64 4 (fes (nv [(orB (orB (orB (orB (orB (orB (orB (orB 0 (b.getD 0 0) 0) (b.getD 1 0) 8) (b.getD 2 0) 16) (b.getD 3 0) 24) (b.getD 4 0) 32) (b.getD 5 0) 40) (b.getD 6 0) 48) (b.getD 7 0) 56), (orB (orB (orB (orB (orB (orB (orB (orB 0 (b.getD 8 0) 0) (b.getD 9 0) 8) (b.getD 10 0) 16) (b.getD 11 0) 24) (b.getD 12 0) 32) (b.getD 13 0) 40) (b.getD 14 0) 48) (b.getD 15 0) 56), (orB (orB (orB (orB (orB (orB (orB (orB 0 (b.getD 16 0) 0) (b.getD 17 0) 8) (b.getD 18 0) 16) (b.getD 19 0) 24) (b.getD 20 0) 32) (b.getD 21 0) 40) (b.getD 22 0) 48) (b.getD 23 0) 56), ((orB (orB (orB (orB (orB (orB (orB (orB 0 (b.getD 24 0) 0) (b.getD 25 0) 8) (b.getD 26 0) 16) (b.getD 27 0) 24) (b.getD 28 0) 32) (b.getD 29 0) 40) (b.getD 30 0) 48) (b.getD 31 0) 56) &&& 9223372036854775807)] % prm))) [] := by kernel_rfl
theorem From_c (b : List UInt8) : HCall Tryd.E 11 [.b8 32 b] (.ret (.w64 4 (fes (fromN b))) []) := by
  refine HCall.of_len rfl rfl fun hl => ?_
  have hb : b.length = 32 := hl _ (List.mem_cons_self ..)
  refine HCall.of_walk (R := RR) (T := T4) (fun _ _ => .unroll 33) 3 rfl rfl ?_
  rw [From_w, nv_mk, from_law hb]
  exact ⟨rfl, rfl⟩
theorem Bytes_w (a0 a1 a2 a3 : UInt64) (K : AV → Heap → Prop) : walk Tryd.E RR T4.C (fun _ _ => .unroll 33) 3 12 [.w64 4 [a0, a1, a2, a3]] K =
    ite2 (!ltN (nv [a0, a1, a2, a3]) prm) (K (.tup [.b8 32 (List.replicate 32 0), .int .i64 6]) []) (K (.tup [.b8 32 [(shr64 a0 0).toUInt8, (shr64 a0 8).toUInt8, (shr64 a0 16).toUInt8, (shr64 a0 24).toUInt8, (shr64 a0 32).toUInt8, (shr64 a0 40).toUInt8, (shr64 a0 48).toUInt8, (shr64 a0 56).toUInt8, (shr64 a1 0).toUInt8, (shr64 a1 8).toUInt8, (shr64 a1 16).toUInt8, (shr64 a1 24).toUInt8, (shr64 a1 32).toUInt8, (shr64 a1 40).toUInt8, (shr64 a1 48).toUInt8, (shr64 a1 56).toUInt8, (shr64 a2 0).toUInt8, (shr64 a2 8).toUInt8, (shr64 a2 16).toUInt8, (shr64 a2 24).toUInt8, (shr64 a2 32).toUInt8, (shr64 a2 40).toUInt8, (shr64 a2 48).toUInt8, (shr64 a2 56).toUInt8, (shr64 a3 0).toUInt8, (shr64 a3 8).toUInt8, (shr64 a3 16).toUInt8, (shr64 a3 24).toUInt8, (shr64 a3 32).toUInt8, (shr64 a3 40).toUInt8, (shr64 a3 48).toUInt8, (shr64 a3 56).toUInt8], .int .i64 0]) []) := by kernel_rfl
theorem Bytes_c (a : List UInt64) (ha : nv a < prm) : HCall Tryd.E 12 [.w64 4 a] (.ret (.tup [.b8 32 (bytesS (nv a)), .int .i64 0]) []) := by
  refine HCall.of_len rfl rfl fun hl => ?_
  have hl4 : a.length = 4 := hl _ (List.mem_cons_self ..)
  rw [eta4 hl4] at ha ⊢
  generalize a.getD 0 0 = a0 at *; generalize a.getD 1 0 = a1 at *; generalize a.getD 2 0 = a2 at *; generalize a.getD 3 0 = a3 at *
  refine HCall.of_walk (R := RR) (T := T4) (fun _ _ => .unroll 33) 3 rfl rfl ?_
  rw [Bytes_w, ltN_eq, decide_eq_true ha, ← bytes_law, nv_mk, bytesS_eq]
  exact ⟨rfl, rfl⟩

noncomputable def T5 : Ctr Tryd.E := ((((((T4.add 15 (fun
    | [.w64 4 a, .w64 4 b] => some (ltN (nv a) prm && ltN (nv b) prm, .ret (.tup [.w64 4 (fes ((nv a + nv b) % prm)), .int .i64 0]) [])
    | _ => none) (by
      intro args pre out h hp
      split at h
      · simp only [Option.some.injEq, Prod.mk.injEq] at h
        obtain ⟨rfl, rfl⟩ := h
        simp only [Bool.and_eq_true, ltN_eq, decide_eq_true_eq] at hp
        exact Add_c _ _ hp.1 hp.2
      · simp at h)).add 16 (fun
    | [.w64 4 a, .w64 4 b] => some (ltN (nv a) prm && ltN (nv b) prm, .ret (.tup [.w64 4 (fes (nv a * nv b % prm)), .int .i64 0]) [])
    | _ => none) (by
      intro args pre out h hp
      split at h
      · simp only [Option.some.injEq, Prod.mk.injEq] at h
        obtain ⟨rfl, rfl⟩ := h
        simp only [Bool.and_eq_true, ltN_eq, decide_eq_true_eq] at hp
        exact Mul_c _ _ hp.1 hp.2
      · simp at h)).add 17 (fun
    | [.w64 4 a, .w64 4 b] => some (ltN (nv a) prm && ltN (nv b) prm, .ret (.tup [.w64 4 (fes ((nv a + prm - nv b) % prm)), .int .i64 0]) [])
    | _ => none) (by
      intro args pre out h hp
      split at h
      · simp only [Option.some.injEq, Prod.mk.injEq] at h
        obtain ⟨rfl, rfl⟩ := h
        simp only [Bool.and_eq_true, ltN_eq, decide_eq_true_eq] at hp
        exact Sub_c _ _ hp.1 hp.2
      · simp at h)).add 18 (fun
    | [.w64 4 a] => some (ltN (nv a) prm, .ret (.tup [.w64 4 (fes (nv a ^ (prm - 2) % prm)), .int .i64 0]) [])
    | _ => none) (by
      intro args pre out h hp
      split at h
      · simp only [Option.some.injEq, Prod.mk.injEq] at h
        obtain ⟨rfl, rfl⟩ := h
        simp only [ltN_eq, decide_eq_true_eq] at hp
        exact Inv_c _ hp
      · simp at h)).add 11 (fun
    | [.b8 32 b] => some (true, .ret (.w64 4 (fes (fromN b))) [])
    | _ => none) (by
      intro args pre out h hp
      split at h
      · simp only [Option.some.injEq, Prod.mk.injEq] at h
        obtain ⟨rfl, rfl⟩ := h
        exact From_c _
      · simp at h)).add 12 (fun
    | [.w64 4 a] => some (ltN (nv a) prm, .ret (.tup [.b8 32 (bytesS (nv a)), .int .i64 0]) [])
    | _ => none) (by
      intro args pre out h hp
      split at h
      · simp only [Option.some.injEq, Prod.mk.injEq] at h
        obtain ⟨rfl, rfl⟩ := h
        simp only [ltN_eq, decide_eq_true_eq] at hp
        exact Bytes_c _ hp
      · simp at h))
end Go.Proofs.YtfjmpdoidkblcaaDoor
